/- VAll2, part 1 of what the proof leans on (made short by a program). -/
import Derived.WalkSpells
import Derived.WalkLawsBesides
import Derived.Test.YtlgipkemoldckaaGreatDoorRows
import Derived.Deep.RegionHeld3
import Derived.Lib.SmallJoins
import Derived.RangeFuncBound
import Derived.Shelf.Strings.BuilderK
import Derived.Shelf.Strings.Repeat
import Derived.Shelf.Strconv.Itoa3
import Derived.Lib.AppendIntMem
import Derived.Lib.ItoaLen
import Derived.RangeFuncNested
import Derived.Shelf.RegionOpen
import Derived.OwnWalkIn
import Derived.LoopNIn
import Derived.LoopIn
set_option linter.unusedSimpArgs false
set_option linter.unusedVariables false
set_option linter.unusedSectionVars false
set_option maxRecDepth 20000
set_option maxHeartbeats 30000000
namespace Go.Proofs.YtlgipkemoldckaaGreatDoor
open Go
section
variable {P:Program} {ops:Array Oper} {Q:Exit→Act→World→Prop} {md:Region.Mode} {S:World→Prop} {Z:Nat→Bool}
def Zk (P:Program) (md:Region.Mode) (ops:Array Oper) (Q:Exit→Act→World→Prop) (S:World→Prop) (Z:Nat→Bool):Nat→Array Bool→Act→World→Prop
 | 0,listed,a,w=>Region.ready md ops listed=[]∧Q .normal a w
 | fuel+1,listed,a,w =>
  (Region.ready md ops listed=[]→Q .normal a w) ∧
  ∀ i∈Region.ready md ops listed,wpOp P ops Q i (fun a' w'=>(Z i=false→S w')∧Zk P md ops Q S Z fuel (listed.setIfInBounds i true) a' w') a w
theorem VE:∀ (fuel:Nat) (listed:Array Bool) (a:Act) (w:World),Zk P md ops Q S Z fuel listed a w→wpAny P md ops Q fuel listed a w
 | 0,_,_,_,h=>h
 | fuel+1,_,_,_,h=>⟨h.1,fun i hi=>wpOp_mono (fun a' w' h'=>VE fuel _ a' w' h'.2) (h.2 i hi)⟩
def Sg (listed:Array Bool) (js:List Nat):Array Bool:=js.foldl (fun l j=>l.setIfInBounds j true) listed
theorem WC {k:Nat}:∀ (js:List Nat) (listed:Array Bool),(Sg listed js).getD k true=false→listed.getD k true=false
 | [],_,h=>h
 | j :: js,listed,h=>by
  have h1:=WC js (listed.setIfInBounds j true) h
  by_cases hjk:j=k
  ·subst hjk
   by_cases hs:j<listed.size
   ·simp[hs] at h1
   ·simp[hs] at h1
  ·rwa [getD_set_ne true hjk] at h1
theorem Vi {k:Nat}:∀ (js:List Nat) (listed:Array Bool),k∉js→listed.getD k true=false→(Sg listed js).getD k true=false
 | [],_,_,h=>h
 | j :: js,listed,hn,h=>Vi js _ (fun e=>hn (by simp[e])) (by rw[getD_set_ne true (fun e=>hn (by simp[e]))];exact h)
theorem UA {listed:Array Bool} {k:Nat} (h:listed.getD k true=false):listed.getD k false=false:=by
 by_cases hs:k<listed.size
 ·simp[hs] at h ⊢;exact h
 ·simp[hs] at h
def YO (md:Region.Mode) (ops:Array Oper) (i:Nat) (oi:Oper) (listed:Array Bool):Prop :=
 i∈Region.ready md ops listed∧∀ js,i∉js→∀ j oj,j∈Region.ready md ops (Sg listed js)→j≠i→ops[j]?=some oj→(∀ e∈oj.after,Region.binds md e=true→e.on≠i)∧oi.apart ops oj=true
theorem YO.step {i j:Nat} {oi:Oper} {listed:Array Bool} (h:YO md ops i oi listed) (hj:j≠i):YO md ops i oi (listed.setIfInBounds j true) :=
 ⟨ready_mono h.1 (Ne.symm hj),fun js hn=>h.2 (j :: js) (by simp[hn,Ne.symm hj])⟩
theorem YO.of_free {i:Nat} {oi:Oper} {listed:Array Bool} (hi:ops[i]?=some oi) (hr:i∈Region.ready md ops listed) (hf:Region.free md ops listed i=true):YO md ops i oi listed:=by
 refine ⟨hr,fun js hn j oj hj hji hoj=>?_⟩
 obtain ⟨hun,o,ho,hall⟩:=mem_ready.1 hj
 rw[hoj] at ho
 cases ho
 have hno:∀ e∈oj.after,Region.binds md e=true→e.on≠i:=fun e he hb hei=>by
  have h1:=hall e he hb
  rw[hei,UA (Vi js listed hn (mem_ready.1 hr).1)] at h1
  cases h1
 exact ⟨hno,Region.free_spec hi hf j oj hoj hji (WC js listed hun) hno⟩
theorem WT {fuel:Nat} {listed:Array Bool} {a:Act} {w:World} (h:Zk P md ops Q S Z fuel listed a w) {j:Nat} (hj:j∈Region.ready md ops listed) :
  ∃ n,fuel=n+1∧wpOp P ops Q j (fun a' w'=>(Z j=false→S w')∧Zk P md ops Q S Z n (listed.setIfInBounds j true) a' w') a w:=by
 cases fuel with
 | zero=>exact absurd (h.1 ▸ hj:j∈[]) (by simp)
 | succ n=>exact ⟨n,rfl,h.2 j hj⟩
def Ti (md:Region.Mode) (ops:Array Oper) (Z:Nat→Bool) (listed:Array Bool) (i:Nat):Bool :=
 (List.range ops.size).all fun j=>listed.getD j true || !Z j || (match ops[j]? with
  | some o=>o.after.any fun e=>Region.binds md e && e.on == i
  | none=>true)
theorem TY {i j:Nat} {oj:Oper} {listed:Array Bool} (h:Ti md ops Z listed i=true) (hz:Z j=true) (hu:listed.getD j true=false) (hj:ops[j]?=some oj):∃ e∈oj.after,Region.binds md e=true∧e.on=i:=by
 have hjs:j<ops.size:=(Array.getElem?_eq_some_iff.1 hj).1
 have:=List.all_eq_true.1 h j (List.mem_range.2 hjs)
 rw[hz,hj,hu] at this
 simp only[Bool.not_true,Bool.false_or,Array.any_eq_true,Bool.and_eq_true,beq_iff_eq] at this
 obtain ⟨k,hk,h1,h2⟩:=this
 exact ⟨_,Array.getElem_mem hk,h1,h2⟩
theorem Ts {i:Nat} {oi:Oper} {v:Value} (hi:ops[i]?=some oi)
  (hsel:∀ (j:Nat) (o:Oper) cs b,ops[j]?=some o→o.op≠.select cs b) (hQ:∀ c a w,Q (.panic c) (a.put oi.dst v) w→Q (.panic c) a w) (hiz:Z i=false) (fuel:Nat) :
  ∀ (listed:Array Bool) (a:Act) (w:World),(∀ j oj,Z j=true→listed.getD j true=false→ops[j]?=some oj→∃ e∈oj.after,Region.binds md e=true∧e.on=i)→YO md ops i oi listed→YieldsIf P ops S oi v a→S w →
   Zk P md ops Q S Z fuel (listed.setIfInBounds i true) (a.put oi.dst v) w→Zk P md ops Q S Z (fuel+1) listed a w:=by
 induction fuel using Nat.strongRecOn with
 | _ fuel ih =>
  intro listed a w hwait hA hy hS H
  refine ⟨fun h0=>absurd (h0 ▸ hA.1:i∈[]) (by simp),fun j hj=>?_⟩
  rcases Decidable.em (j=i) with hji|hji
  ·rw[hji]
   exact hy.wpOp hi hS ⟨fun _=>hS,H⟩
  ·obtain ⟨n,rfl,hop⟩:=WT H (ready_mono hj hji)
   obtain ⟨oj,hoj⟩:∃ oj,ops[j]?=some oj:=by
    obtain ⟨_,oj,hoj,_⟩:=mem_ready.1 hj
    exact ⟨oj,hoj⟩
   obtain ⟨hno,hap⟩:=hA.2 [] (by simp) j oj hj hji hoj
   have hjz:Z j=false:=by
    cases hz:Z j with
    | false=>rfl
    | true =>
     obtain ⟨e,he,hb,hei⟩:=hwait j oj hz (mem_ready.1 hj).1 hoj
     exact absurd hei (hno e he hb)
   refine wpOp_mono ?_ (wpOp_putIf hoj hap (fun cs b=>hsel i oi cs b hi) (fun cs b=>hsel j oj cs b hoj) hQ hy hop)
   rintro a' w' ⟨hy',hS',H'⟩
   rw[Array.setIfInBounds_comm _ _ (Ne.symm hji)] at H'
   exact ⟨hS',ih n (Nat.lt_succ_self n) _ a' w' (fun q oq hq hu=>hwait q oq hq (WC [j] listed hu)) (hA.step hji) hy' (hS' hjz) H'⟩
theorem UN {i:Nat} {oi:Oper} {v:Value} (hi:ops[i]?=some oi)
  (hsel:∀ (j:Nat) (o:Oper) cs b,ops[j]?=some o→o.op≠.select cs b) (hQ:∀ c a w,Q (.panic c) (a.put oi.dst v) w→Q (.panic c) a w) (hiz:Z i=true) (fuel:Nat) :
  ∀ (listed:Array Bool) (a:Act) (w:World),YO md ops i oi listed→YieldsIf P ops (fun _=>True) oi v a →
   Zk P md ops Q S Z fuel (listed.setIfInBounds i true) (a.put oi.dst v) w→Zk P md ops Q S Z (fuel+1) listed a w:=by
 induction fuel using Nat.strongRecOn with
 | _ fuel ih =>
  intro listed a w hA hy H
  refine ⟨fun h0=>absurd (h0 ▸ hA.1:i∈[]) (by simp),fun j hj=>?_⟩
  rcases Decidable.em (j=i) with hji|hji
  ·rw[hji]
   exact hy.wpOp hi trivial ⟨fun h=>(by rw[hiz] at h;cases h),H⟩
  ·obtain ⟨n,rfl,hop⟩:=WT H (ready_mono hj hji)
   obtain ⟨oj,hoj⟩:∃ oj,ops[j]?=some oj:=by
    obtain ⟨_,oj,hoj,_⟩:=mem_ready.1 hj
    exact ⟨oj,hoj⟩
   obtain ⟨hno,hap⟩:=hA.2 [] (by simp) j oj hj hji hoj
   refine wpOp_mono ?_ (wpOp_putIf hoj hap (fun cs b=>hsel i oi cs b hi) (fun cs b=>hsel j oj cs b hoj) hQ hy hop)
   rintro a' w' ⟨hy',hS',H'⟩
   rw[Array.setIfInBounds_comm _ _ (Ne.symm hji)] at H'
   exact ⟨hS',ih n (Nat.lt_succ_self n) _ a' w' (hA.step hji) hy' H'⟩
theorem X5 {i:Nat} {oi:Oper} {d:Option Tmp} {v:Value} {fuel:Nat} {listed:Array Bool} {a:Act} {w:World} (hi:ops[i]?=some oi) (hd:oi.dst=d) (hiz:Z i=false) (hwait:Ti md ops Z listed i=true)
  (hs:Region.noSelect ops=true) (hf:Region.free md ops listed i=true) (hr:(Region.ready md ops listed).contains i=true)
  (hQ:∀ c a w,Q (.panic c) (a.put d v) w→Q (.panic c) a w) (hy:YieldsIf P ops S oi v a) (hS:S w)
  (h:Zk P md ops Q S Z fuel (listed.setIfInBounds i true) (a.put d v) w):Zk P md ops Q S Z (fuel+1) listed a w:=by
 subst hd
 exact Ts hi (Region.noSelect_spec hs) hQ hiz fuel listed a w (fun j oj hz hu hj=>TY hwait hz hu hj) (YO.of_free hi (by simpa using hr) hf) hy hS h
theorem Ja:(∀ (T:Array Value) (D:List Deferred) (d:Tmp) (v:Value),Act.put ⟨T,D⟩ (some d) v=⟨T.setIfInBounds d v,D⟩)∧(∀ (a:Act) (v:Value),a.put none v=a)∧(∀ (l:List Value) (i:Nat) (a:Value),l.toArray.setIfInBounds i a=(l.set i a).toArray)∧(∀ (x:Value) (l:List Value) (y:Value),(x :: l).set 0 y=y :: l)∧(∀ (x:Value) (l:List Value) (i:Nat) (y:Value),(x :: l).set (i+1) y=x :: l.set i y) :=
 ⟨fun _ _ _ _=>rfl,fun _ _=>rfl,fun _ _ _=>List.setIfInBounds_toArray ..,fun _ _ _=>rfl,fun _ _ _ _=>rfl⟩
def Jd (md:Region.Mode) (ops:Array Oper) (Z:Nat→Bool) (listed:Array Bool) (i:Nat):Bool:=!Z i && (Ti md ops Z listed i && (Region.noSelect ops && (Region.free md ops listed i && (Region.ready md ops listed).contains i)))
theorem JR (i t:Nat) (v:Value) {oi:Oper} {fuel:Nat} {listed:Array Bool} {a:Act} {w:World} (hi:ops[i]?=some oi) (hd:oi.dst=some t) (hS:S w) (hy:∀ W,S W→(execOp a.eval oi).run P W=.ok (.value v) W)
  (h:Zk P md ops Q S Z fuel (listed.setIfInBounds i true) (a.put (some t) v) w) (hk:Jd md ops Z listed i=true:=by kernel_rfl) (hQ:∀ c a w,Q (.panic c) (a.put (some t) v) w→Q (.panic c) a w:=by exact fun _ _ _ h=>h) (hw:Region.wanted oi (yielded ops a.tmps)=true:=by rfl):Zk P md ops Q S Z (fuel+1) listed a w:=by
 simp only[Jd,Bool.and_eq_true,Bool.not_eq_true'] at hk
 exact X5 hi hd hk.1 hk.2.1 hk.2.2.1 hk.2.2.2.1 hk.2.2.2.2 hQ (.inl ⟨hw,hy⟩) hS h
theorem J0 (i t:Nat) (v:Value) {oi:Oper} {fuel:Nat} {listed:Array Bool} {a:Act} {w:World} (hS:S w) (h:Zk P md ops Q S Z fuel (listed.setIfInBounds i true) (a.put (some t) v) w) (hi:ops[i]?=some oi:=by rfl) (hd:oi.dst=some t:=by rfl) (hy:∀ W,S W→(execOp a.eval oi).run P W=.ok (.value v) W:=by intro W hW;go_simp;try rfl)
  (hk:Jd md ops Z listed i=true:=by kernel_rfl) (hQ:∀ c a w,Q (.panic c) (a.put (some t) v) w→Q (.panic c) a w:=by exact fun _ _ _ h=>h) (hw:Region.wanted oi (yielded ops a.tmps)=true:=by rfl):Zk P md ops Q S Z (fuel+1) listed a w:=JR i t v hi hd hS hy h hk hQ hw
theorem J2 (i t:Nat) (v:Value) {oi:Oper} {fuel:Nat} {listed:Array Bool} {a:Act} {w:World} (hS:S w) (h:Zk P md ops Q S Z fuel (listed.setIfInBounds i true) (a.put (some t) v) w) (hi:ops[i]?=some oi:=by rfl) (hd:oi.dst=some t:=by rfl) (hy:∀ W,S W→(execOp a.eval oi).run P W=.ok (.value v) W:=by intro W hW;obtain ⟨q0,q1⟩:=hW;go_simp;try rfl)
  (hk:Jd md ops Z listed i=true:=by kernel_rfl) (hQ:∀ c a w,Q (.panic c) (a.put (some t) v) w→Q (.panic c) a w:=by exact fun _ _ _ h=>h) (hw:Region.wanted oi (yielded ops a.tmps)=true:=by rfl):Zk P md ops Q S Z (fuel+1) listed a w:=JR i t v hi hd hS hy h hk hQ hw
theorem J3 (i t:Nat) (v:Value) {oi:Oper} {fuel:Nat} {listed:Array Bool} {a:Act} {w:World} (hS:S w) (h:Zk P md ops Q S Z fuel (listed.setIfInBounds i true) (a.put (some t) v) w) (hi:ops[i]?=some oi:=by rfl) (hd:oi.dst=some t:=by rfl) (hy:∀ W,S W→(execOp a.eval oi).run P W=.ok (.value v) W:=by intro W hW;obtain ⟨q0,q1,q2⟩:=hW;go_simp;try rfl)
  (hk:Jd md ops Z listed i=true:=by kernel_rfl) (hQ:∀ c a w,Q (.panic c) (a.put (some t) v) w→Q (.panic c) a w:=by exact fun _ _ _ h=>h) (hw:Region.wanted oi (yielded ops a.tmps)=true:=by rfl):Zk P md ops Q S Z (fuel+1) listed a w:=JR i t v hi hd hS hy h hk hQ hw
theorem J4 (i t:Nat) (v:Value) {oi:Oper} {fuel:Nat} {listed:Array Bool} {a:Act} {w:World} (hS:S w) (h:Zk P md ops Q S Z fuel (listed.setIfInBounds i true) (a.put (some t) v) w) (hi:ops[i]?=some oi:=by rfl) (hd:oi.dst=some t:=by rfl) (hy:∀ W,S W→(execOp a.eval oi).run P W=.ok (.value v) W:=by intro W hW;obtain ⟨q0,q1,q2,q3⟩:=hW;go_simp;try rfl)
  (hk:Jd md ops Z listed i=true:=by kernel_rfl) (hQ:∀ c a w,Q (.panic c) (a.put (some t) v) w→Q (.panic c) a w:=by exact fun _ _ _ h=>h) (hw:Region.wanted oi (yielded ops a.tmps)=true:=by rfl):Zk P md ops Q S Z (fuel+1) listed a w:=JR i t v hi hd hS hy h hk hQ hw
theorem JO (i t:Nat) {oi:Oper} {fuel:Nat} {listed:Array Bool} {a:Act} {w:World} (hi:ops[i]?=some oi) (hd:oi.dst=some t) (hS:S w)
  (h:Zk P md ops Q S Z fuel (listed.setIfInBounds i true) (a.put (some t) undef) w) (hk:Jd md ops Z listed i=true:=by kernel_rfl) (hQ:∀ c a w,Q (.panic c) (a.put (some t) undef) w→Q (.panic c) a w:=by exact fun _ _ _ h=>h) (hw:Region.wanted oi (yielded ops a.tmps)=false:=by rfl):Zk P md ops Q S Z (fuel+1) listed a w:=by
 simp only[Jd,Bool.and_eq_true,Bool.not_eq_true'] at hk
 exact X5 hi hd hk.1 hk.2.1 hk.2.2.1 hk.2.2.2.1 hk.2.2.2.2 hQ (.inr ⟨hw,rfl⟩) hS h
theorem Z1 {i:Nat} {oi:Oper} {d:Option Tmp} {v:Value} {fuel:Nat} {listed:Array Bool} {a:Act} {w:World} (hi:ops[i]?=some oi) (hd:oi.dst=d) (hiz:Z i=true)
  (hs:Region.noSelect ops=true) (hf:Region.free md ops listed i=true) (hr:(Region.ready md ops listed).contains i=true)
  (hQ:∀ c a w,Q (.panic c) (a.put d v) w→Q (.panic c) a w) (hy:YieldsIf P ops (fun _=>True) oi v a)
  (h:Zk P md ops Q S Z fuel (listed.setIfInBounds i true) (a.put d v) w):Zk P md ops Q S Z (fuel+1) listed a w:=by
 subst hd
 exact UN hi (Region.noSelect_spec hs) hQ hiz fuel listed a w (YO.of_free hi (by simpa using hr) hf) hy h
theorem Wx {i:Nat} {fuel:Nat} {listed:Array Bool} {a:Act} {w:World} (hr:Region.ready md ops listed=[i])
  (h:wpOp P ops Q i (fun a' w'=>(Z i=false→S w')∧Zk P md ops Q S Z fuel (listed.setIfInBounds i true) a' w') a w):Zk P md ops Q S Z (fuel+1) listed a w :=
 ⟨fun h0=>absurd (hr.symm.trans h0) (by simp),fun j hj=>by rw[hr] at hj;rw[List.mem_singleton.1 hj];exact h⟩
theorem Zn {i:Nat} {o:Oper} {d:Option Tmp} {fuel:Nat} {listed:Array Bool} {a:Act} {w w':World} (hr:Region.ready md ops listed=[i]) (ho:ops[i]?=some o) (hd:o.dst=d) (hw:Region.wanted o (yielded ops a.tmps)=true)
  (hv:(execOp a.eval o).run P w=.ok .skip w') (hS:Z i=false→S w') (h:Zk P md ops Q S Z fuel (listed.setIfInBounds i true) (a.put d undef) w'):Zk P md ops Q S Z (fuel+1) listed a w:=by
 subst hd
 exact Wx hr (wpOp_step ho fun K' hK=>by
  rw[if_pos hw,Oper.wp,hv]
  exact hK _ _ ⟨hS,h⟩)
theorem Zi {listed:Array Bool} {a:Act} {w:World} (hr:Region.ready md ops listed=[]) (h:Q .normal a w):∀ fuel,Zk P md ops Q S Z fuel listed a w
 | 0=>⟨hr,h⟩
 | _+1=>⟨fun _=>h,by rw[hr];simp⟩
theorem Zq {id:Nat} {a:Act} {w:World} (S:World→Prop) (Z:Nat→Bool) (hm:P.follows .mixedOrders=true)
  (h:Zk P .any ops Q S Z ops.size (Array.replicate ops.size false) a w.drew):(Code.region id ops true).wp P Q a w :=
 wp_region_any hm (VE _ _ _ _ h)
end
end Go.Proofs.YtlgipkemoldckaaGreatDoor
namespace Go.Proofs.YtlgipkemoldckaaGreatDoor
open Go.RowKit
theorem Jh {p:Prop} (h:p):Hid p:=Lib.hid h
theorem Je {α:Sort _} (a:α):∃ x,a=x:=⟨_,rfl⟩
structure Ext (S:Nat→Prop) (w w':World):Prop where
 os:w'.os=w.os
 tape:w'.tape=w.tape
 output:w'.output=w.output
 size:w.heap.size≤w'.heap.size
 block:∀ k,k<w.heap.size→¬ S k→w'.heap[k]?=w.heap[k]?
theorem Ext.refl (S:Nat→Prop) (w:World):Ext S w w:=⟨rfl,rfl,rfl,Nat.le_refl _,fun _ _ _=>rfl⟩
theorem Ext.trans {S:Nat→Prop} {a b c:World} (h:Ext S a b) (k:Ext S b c):Ext S a c :=
 ⟨k.os.trans h.os,k.tape.trans h.tape,k.output.trans h.output,Nat.le_trans h.size k.size,fun i hi hn=>(k.block i (Nat.lt_of_lt_of_le hi h.size) hn).trans (h.block i hi hn)⟩
theorem Ext.mono {S T:Nat→Prop} {w w':World} (h:Ext S w w') (hs:∀ k,k<w.heap.size→S k→T k):Ext T w w' :=
 ⟨h.os,h.tape,h.output,h.size,fun k hk hn=>h.block k hk (fun s=>hn (hs k hk s))⟩
theorem Ext.andThen {S T:Nat→Prop} {a b c:World} (h:Ext S a b) (k:Ext T b c) (hs:∀ i,i<a.heap.size→T i→S i):Ext S a c :=
 ⟨k.os.trans h.os,k.tape.trans h.tape,k.output.trans h.output,Nat.le_trans h.size k.size,fun i hi hn=>(k.block i (Nat.lt_of_lt_of_le hi h.size) (fun t=>hn (hs i hi t))).trans (h.block i hi hn)⟩
theorem Ext.drew {S:Nat→Prop} {a w:World} (h:Ext S a w):Ext S a w.drew:=⟨h.os,h.tape,h.output,h.size,h.block⟩
theorem Ext.alloc {S:Nat→Prop} {a w:World} (h:Ext S a w) (o:Obj):Ext S a (w.alloc o) :=
 h.trans ⟨rfl,rfl,rfl,by simp,fun k hk _=>Below.heap_alloc _ _ _ hk⟩
theorem Ext.setCell {S:Nat→Prop} {a w:World} (h:Ext S a w) {p:Addr} (hp:a.heap.size≤p.block∨S p.block) (u:Value):Ext S a (w.setCell p u) :=
 ⟨h.os,h.tape,h.output,by simpa [World.setCell] using h.size,fun k hk hn=>by
  rw[Below.heap_setCell _ _ _ _ (by intro e;subst e;rcases hp with hp|hp;omega;exact hn hp)];exact h.block k hk hn⟩
theorem Ext.of_below {S:Nat→Prop} {w w':World} (h:Below w.heap.size w w'):Ext S w w':=⟨h.os,h.tape,h.output,h.size,fun k hk _=>h.block k hk⟩
theorem Ext.cell {S:Nat→Prop} {w w':World} (h:Ext S w w') {p:Addr} (hp:p.block<w.heap.size) (hn:¬ S p.block):w'.cell? p=w.cell? p:=World.cell?_of_block (w:=w) (h.block p.block hp hn)
theorem ZA {B:Nat} {w w':World}:Below B w.drew w'↔Below B w w':=⟨fun h=>⟨h.os,h.tape,h.output,h.size,h.block⟩,fun h=>⟨h.os,h.tape,h.output,h.size,h.block⟩⟩
theorem ZI (w:World):w.drew.heap=w.heap:=rfl
theorem Ext.new {S:Nat→Prop} {B:Nat} {w a b:World} (h:Below B w a) (k:Ext S a b) (hs:∀ i,i<B→i<a.heap.size→¬ S i) (hB:B≤a.heap.size):Below B w b :=
 ⟨k.os.trans h.os,k.tape.trans h.tape,k.output.trans h.output,Nat.le_trans h.size k.size,fun i hi=>(k.block i (by omega) (hs i hi (by omega))).trans (h.block i hi)⟩
theorem Zy {w:World} {b o:Nat} {v:Value} (h:w.cell? ⟨b,o,none⟩=some v):b<w.heap.size:=by
 simp only[World.cell?] at h
 exact Classical.byContradiction fun hn=>by rw[Array.getElem?_eq_none (by omega)] at h;cases h
theorem Z2 {w:World} {b o:Nat} {v:Value} (h:w.cell? ⟨b,o,none⟩=some v) (x:Obj):(w.alloc x).cell? ⟨b,o,none⟩=some v :=
 (World.cell?_alloc_past x b o (Zy h)).trans h
theorem Z0 {W w1:World} (hb:Below W.heap.size W w1) {b o:Nat} {v:Value} (h:W.cell? ⟨b,o,none⟩=some v):w1.cell? ⟨b,o,none⟩=some v :=
 (hb.cell (p:=⟨b,o,none⟩) (Zy h)).trans h
theorem Ext.keep {S:Nat→Prop} {W w1:World} (hb:Ext S W w1) {b o:Nat} {v:Value} (h:W.cell? ⟨b,o,none⟩=some v) (hn:¬ S b):w1.cell? ⟨b,o,none⟩=some v :=
 (hb.cell (p:=⟨b,o,none⟩) (Zy h) hn).trans h
section maps
variable {K V:Type} [DecidableEq K]
def Z3:List (K × V)→K→Option V
 | [],_=>none
 | (k',v) :: r,k=>if k'=k then some v else Z3 r k
def Zw:List (K × V)→K→V→List (K × V)
 | [],k,v=>[(k,v)]
 | (k',v') :: r,k,v=>if k'=k then (k',v) :: r else (k',v') :: Zw r k v
def Zv:List (K × V)→K→Option Nat
 | [],_=>none
 | (k',_) :: r,k=>if k'=k then some 0 else (Zv r k).map (·+1)
theorem WL {l:List (K × V)} {k:K} (h:Zv l k=none):Z3 l k=none:=by
 induction l with
 | nil=>rfl
 | cons p r ih =>
  obtain ⟨k',v⟩:=p
  simp only[Zv] at h
  split at h
  ·cases h
  ·rename_i hne
   simp only[Z3,hne,if_false]
   exact ih (by simpa using h)
theorem Xu {l:List (K × V)} {k:K} {i:Nat} (h:Zv l k=some i):∃ v,l[i]?=some (k,v)∧Z3 l k=some v:=by
 induction l generalizing i with
 | nil=>cases h
 | cons p r ih =>
  obtain ⟨k',v⟩:=p
  simp only[Zv] at h
  split at h
  ·rename_i he
   cases h
   exact ⟨v,by simp[he],by simp[Z3,he]⟩
  ·rename_i hne
   cases hi:Zv r k with
   | none=>rw[hi] at h;cases h
   | some j =>
    rw[hi] at h
    cases h
    obtain ⟨u,h1,h2⟩:=ih hi
    exact ⟨u,by simpa using h1,by simpa [Z3,hne] using h2⟩
theorem Ut {l:List (K × V)} {k:K} {v:V} (h:Zv l k=none):Zw l k v=l++[(k,v)]:=by
 induction l with
 | nil=>rfl
 | cons p r ih =>
  obtain ⟨k',v'⟩:=p
  simp only[Zv] at h
  split at h
  ·cases h
  ·rename_i hne
   simp only[Zw,hne,if_false,List.cons_append]
   rw[ih (by simpa using h)]
theorem Ux {l:List (K × V)} {k:K} {v:V} {i:Nat} (h:Zv l k=some i):Zw l k v=l.set i (k,v):=by
 induction l generalizing i with
 | nil=>cases h
 | cons p r ih =>
  obtain ⟨k',v'⟩:=p
  simp only[Zv] at h
  split at h
  ·rename_i he
   cases h
   simp[Zw,he]
  ·rename_i hne
   cases hi:Zv r k with
   | none=>rw[hi] at h;cases h
   | some j =>
    rw[hi] at h
    cases h
    simp[Zw,hne,ih hi]
theorem ZX (l:List (K × V)) (k:K) (v:V):Z3 (Zw l k v) k=some v:=by
 induction l with
 | nil=>simp[Zw,Z3]
 | cons p r ih =>
  obtain ⟨k',v'⟩:=p
  by_cases h:k'=k <;> simp[Zw,Z3,h,ih]
theorem ZF (l:List (K × V)) {k j:K} (v:V) (h:k≠j):Z3 (Zw l k v) j=Z3 l j:=by
 induction l with
 | nil=>simp[Zw,Z3,h]
 | cons p r ih =>
  obtain ⟨k',v'⟩:=p
  by_cases h1:k'=k
  ·subst h1;simp[Zw,Z3,h]
  ·simp only[Zw,if_neg h1,Z3,ih]
theorem Rf (l:List (K × V)) (k:K) (v:V):∀ x,x∈(Zw l k v).map (·.1)↔x=k∨x∈l.map (·.1):=by
 intro x
 induction l with
 | nil=>simp[Zw]
 | cons p r ih =>
  obtain ⟨k',v'⟩:=p
  by_cases h1:k'=k
  ·subst h1;simp[Zw]
  ·simp only[Zw,h1,if_false,List.map_cons,List.mem_cons,ih]
   constructor
   ·rintro (h|h|h)
    ·exact .inr (.inl h)
    ·exact .inl h
    ·exact .inr (.inr h)
   ·rintro (h|h|h)
    ·exact .inr (.inl h)
    ·exact .inl h
    ·exact .inr (.inr h)
theorem VQ (l:List (K × V)) (k:K) (v:V) (h:(l.map (·.1)).Nodup):((Zw l k v).map (·.1)).Nodup:=by
 induction l with
 | nil=>simp[Zw]
 | cons p r ih =>
  obtain ⟨k',v'⟩:=p
  by_cases h1:k'=k
  ·subst h1;simpa [Zw] using h
  ·simp only[Zw,if_neg h1,List.map_cons,List.nodup_cons] at h ⊢
   refine ⟨fun hm=>?_,ih h.2⟩
   rcases (Rf r k v k').1 hm with e|e
   ·exact absurd e h1
   ·exact h.1 e
theorem Qr {l:List (K × V)} {k:K} {v:V} (h:Z3 l k=some v):(k,v)∈l:=by
 induction l with
 | nil=>cases h
 | cons p r ih =>
  obtain ⟨k',v'⟩:=p
  by_cases h1:k'=k
  ·simp only[Z3,h1,if_true] at h;cases h;simp[h1]
  ·simp only[Z3,h1,if_false] at h;exact List.mem_cons_of_mem _ (ih h)
theorem Vh {l:List (K × V)} {k:K} {v:V} (hn:(l.map (·.1)).Nodup) (h:(k,v)∈l):Z3 l k=some v:=by
 induction l with
 | nil=>cases h
 | cons p r ih =>
  obtain ⟨k',v'⟩:=p
  simp only[List.map_cons,List.nodup_cons] at hn
  rcases List.mem_cons.1 h with e|h
  ·cases e;simp[Z3]
  ·have:k'≠k:=fun e=>hn.1 (by subst e;exact List.mem_map.2 ⟨_,h,rfl⟩)
   simp only[Z3,this,if_false];exact ih hn.2 h
theorem Ui (l:List (K × V)) (k:K) (v:V):(Zw l k v).length≤l.length+1:=by
 induction l with
 | nil=>simp[Zw]
 | cons p r ih =>
  obtain ⟨k',v'⟩:=p
  by_cases h1:k'=k
  ·simp[Zw,h1]
  ·simp[Zw,h1];omega
structure XG (P:Program) (kt:TypeId) (ek:K→Value):Prop where
 check:∀ (em:Bool) (k:K) (w:World),(Instr.checkKey em 10000 kt (ek k)).run P w=.ok () w
 find:∀ (k:K) (es:List MapEntry) (l:List (K × V)) (w:World),es.map (·.key)=l.map (fun p=>ek p.1) →
  (Instr.findKey kt (ek k) es).run P w=.ok ((Zv l k).map fun i=>(i,((es[i]?).map (·.val)).getD undef)) w
 stays:∀ (k:K) (w:World),(Instr.keyThatStays (ek k) (ek k)).run P w=.ok (ek k) w
def Z4 (ek:K→Value) (ev:V→Value) (w:World) (b:Nat) (l:List (K × V)):Prop :=
 (l.map (·.1)).Nodup∧∃ es clock,w.heap[b]?=some (.map es clock)∧es.toList.map (·.key)=l.map (fun p=>ek p.1)∧es.toList.map (·.val)=l.map (fun p=>ev p.2) ∧
  es.toList.Pairwise (fun x y=>x.born<y.born)∧∀ e∈es.toList,e.born<clock
variable {ek:K→Value} {ev:V→Value} {w:World} {b:Nat} {l:List (K × V)}
theorem Z4.of_block {w':World} (h:Z4 ek ev w b l) (hb:w'.heap[b]?=w.heap[b]?):Z4 ek ev w' b l:=by
 obtain ⟨hn,es,clock,h1,h2⟩:=h
 exact ⟨hn,es,clock,hb.trans h1,h2⟩
theorem Z4.lt (h:Z4 ek ev w b l):b<w.heap.size:=by
 obtain ⟨hn,es,clock,h1,h2⟩:=h
 exact (Array.getElem?_eq_some_iff.1 h1).1
theorem Z4.drew (h:Z4 ek ev w b l):Z4 ek ev w.drew b l:=h
theorem Z4.alloc (h:Z4 ek ev w b l) (o:Obj):Z4 ek ev (w.alloc o) b l:=h.of_block (Below.heap_alloc _ _ _ h.lt)
theorem Z4.setCell (h:Z4 ek ev w b l) (p:Addr) (v:Value):Z4 ek ev (w.setCell p v) b l:=by
 obtain ⟨hn,es,clock,h1,h2⟩:=h
 refine ⟨hn,es,clock,?_,h2⟩
 simp only[World.setCell,Array.getElem?_modify]
 split
 ·rename_i e
  subst e
  rw[h1]
  rfl
 ·exact h1
theorem Z4.ext {S:Nat→Prop} {w':World} (h:Z4 ek ev w b l) (hx:Ext S w w') (hn:¬ S b):Z4 ek ev w' b l:=h.of_block (hx.block b h.lt hn)
theorem Z4.below {w':World} (h:Z4 ek ev w b l) (hx:Below w.heap.size w w'):Z4 ek ev w' b l:=h.of_block (hx.block b h.lt)
theorem Z4.made (w:World):Z4 ek ev (w.alloc (.map #[] 0)) w.heap.size ([]:List (K × V)) :=
 ⟨List.nodup_nil,#[],0,by show (w.heap.push _)[w.heap.size]?=_;simp,rfl,rfl,List.Pairwise.nil,by simp⟩
theorem Zs {P:Program} {es:Array MapEntry} {clock:Nat} (h:w.heap[b]?=some (.map es clock)):(getObj b).run P w=.ok (.map es clock) w:=MapKept.run_getObj_map h
theorem Z4.lookup {P:Program} {mt kt et:TypeId} (h:Z4 ek ev w b l) (hk:XG (V:=V) P kt ek) (hm:P.underlying mt=some (.map kt et)) {z:Value} (hz:∀ w,(zeroValue et).run P w=.ok z w) (k:K) :
  (Instr.lookup mt (.map (some b)) (ek k) false).run P w=.ok (((Z3 l k).map ev).getD z) w:=by
 obtain ⟨hn,es,clock,h1,h2,h3,h4⟩:=h
 have hf:=hk.find k es.toList l w h2
 cases hi:Zv l k with
 | none =>
  have h0:=WL hi
  rw[hi] at hf
  simp[Instr.lookup,run_underlying hm,Zs h1,hk.check,hf,hz,h0,Result.andThen]
 | some i =>
  obtain ⟨v,e1,e2⟩:=Xu hi
  have hv:es.toList[i]?.map (·.val)=some (ev v):=by
   have:=congrArg (fun l:List Value=>l[i]?) h3
   simpa [e1] using this
  rw[hi] at hf
  simp only[Array.getElem?_toList] at hf hv
  simp[Instr.lookup,run_underlying hm,Zs h1,hk.check,hf,e2,Result.andThen]
  rw[show es[i]?.map (·.val)=some (ev v) from hv]
  rfl
theorem Z4.lookupOk {P:Program} {mt kt et:TypeId} (h:Z4 ek ev w b l) (hk:XG (V:=V) P kt ek) (hm:P.underlying mt=some (.map kt et)) {z:Value} (hz:∀ w,(zeroValue et).run P w=.ok z w) (k:K) :
  (Instr.lookup mt (.map (some b)) (ek k) true).run P w=.ok (.tuple #[((Z3 l k).map ev).getD z,.bool (Z3 l k).isSome]) w:=by
 obtain ⟨hn,es,clock,h1,h2,h3,h4⟩:=h
 have hf:=hk.find k es.toList l w h2
 cases hi:Zv l k with
 | none =>
  have h0:=WL hi
  rw[hi] at hf
  simp[Instr.lookup,run_underlying hm,Zs h1,hk.check,hf,hz,h0,Result.andThen]
 | some i =>
  obtain ⟨v,e1,e2⟩:=Xu hi
  have hv:es.toList[i]?.map (·.val)=some (ev v):=by
   have:=congrArg (fun l:List Value=>l[i]?) h3
   simpa [e1] using this
  rw[hi] at hf
  simp only[Array.getElem?_toList] at hf hv
  simp[Instr.lookup,run_underlying hm,Zs h1,hk.check,hf,e2,Result.andThen]
  rw[show es[i]?.map (·.val)=some (ev v) from hv]
  rfl
def Zo (w:World) (b:Nat) (i:Option Nat) (k v:Value):World :=
 match w.heap[b]? with
 | some (.map es clock)=>match i with
  | some i=>{ w with heap:=w.heap.setIfInBounds b (.map (es.modify i fun e=>{ e with key:=k,val:=v }) clock) }
  | none=>{ w with heap:=w.heap.setIfInBounds b (.map (es.push { key:=k,val:=v,born:=clock }) (clock+1)) }
 | _=>w
theorem Wg (w:World) (b:Nat) (i:Option Nat) (k v:Value):(Zo w b i k v).heap.size=w.heap.size:=by
 unfold Zo;split
 ·split <;> simp
 ·rfl
theorem Xj (w:World) (b:Nat) (i:Option Nat) (k v:Value) (c:Nat) (h:c≠b):(Zo w b i k v).heap[c]?=w.heap[c]?:=by
 unfold Zo;split
 ·split <;> simp[Array.getElem?_setIfInBounds,h.symm]
 ·rfl
theorem TV (w:World) (b:Nat) (i:Option Nat) (k v:Value) (a:Addr):(Zo w b i k v).cell? a=w.cell? a:=by
 by_cases h:a.block=b
 ·subst h
  unfold Zo
  split
  ·rename_i es clock hb
   split <;> (simp only[World.cell?,Array.getElem?_setIfInBounds,if_true,hb];split <;> simp_all)
  ·rfl
 ·exact World.cell?_of_block (w:=w) (Xj w b i k v _ h)
theorem YE (w:World) (b:Nat) (i:Option Nat) (k v:Value):Ext (·=b) w (Zo w b i k v):=by
 refine ⟨?_,?_,?_,Nat.le_of_eq (Wg w b i k v).symm,fun c _ h=>Xj w b i k v c h⟩ <;> (unfold Zo;split <;> (try split) <;> rfl)
theorem Ext.mapPut {S:Nat→Prop} {a w:World} (h:Ext S a w) {b:Nat} (hb:S b∨a.heap.size≤b) (i:Option Nat) (k v:Value):Ext S a (Zo w b i k v) :=
 h.andThen (YE w b i k v) (fun j hj e=>by rcases hb with hb|hb;exact e ▸ hb;exact absurd hj (by omega))
theorem Ext.then_below {S:Nat→Prop} {a w w':World} (h:Ext S a w) (k:Below w.heap.size w w'):Ext S a w':=h.andThen (Ext.of_below (S:=fun _=>False) k) (fun _ _ f=>f.elim)
theorem Z4.update {P:Program} {mt kt et:TypeId} (h:Z4 ek ev w b l) (hk:XG (V:=V) P kt ek) (hm:P.underlying mt=some (.map kt et)) (k:K) (v:Value) :
  (Instr.mapUpdate mt (.map (some b)) (ek k) v).run P w=.ok () (Zo w b (Zv l k) (ek k) v):=by
 obtain ⟨hn,es,clock,h1,h2,h3,h4⟩:=h
 have hf:=hk.find k es.toList l w h2
 cases hi:Zv l k with
 | none =>
  rw[hi] at hf
  simp[Instr.mapUpdate,run_underlying hm,Zs h1,hk.check,hf,Result.andThen,MapKept.run_setObj_map _ h1,Zo,h1]
 | some i =>
  obtain ⟨u,e1,e2⟩:=Xu hi
  have hv:es.toList[i]?.map (·.key)=some (ek k):=by
   have:=congrArg (fun l:List Value=>l[i]?) h2
   simpa [e1] using this
  rw[hi] at hf
  simp only[Array.getElem?_toList] at hf hv
  simp[Instr.mapUpdate,run_underlying hm,Zs h1,hk.check,hf,hv,hk.stays,Result.andThen,MapKept.run_setObj_map _ h1,Zo,h1]
theorem Z4.put (h:Z4 ek ev w b l) (k:K) (v:V):Z4 ek ev (Zo w b (Zv l k) (ek k) (ev v)) b (Zw l k v):=by
 refine ⟨VQ l k v h.1,?_⟩
 have hlt:=h.lt
 obtain ⟨hn,es,clock,h1,h2,h3,h4,h5⟩:=h
 cases hi:Zv l k with
 | none =>
  refine ⟨es.push { key:=ek k,val:=ev v,born:=clock },clock+1,?_,?_,?_,?_,?_⟩
  ·simp only[Zo,h1];rw[Array.getElem?_setIfInBounds_self_of_lt hlt]
  ·simp[Ut hi,h2]
  ·simp[Ut hi,h3]
  ·rw[Array.toList_push,List.pairwise_append]
   refine ⟨h4,List.pairwise_singleton _ _,fun x hx y hy=>?_⟩
   rw[List.mem_singleton.1 hy]
   exact h5 x hx
  ·intro e he
   rw[Array.toList_push,List.mem_append] at he
   rcases he with he|he
   ·exact Nat.lt_succ_of_lt (h5 e he)
   ·rw[List.mem_singleton.1 he];exact Nat.lt_succ_self _
 | some i =>
  obtain ⟨u,e1,e2⟩:=Xu hi
  have hset:∀ e,es.toList[i]?=some e→(es.modify i fun e=>{ e with key:=ek k,val:=ev v }).toList=es.toList.set i { e with key:=ek k,val:=ev v }:=fun e he=>by
   rw[Array.toList_modify,ChangeMaps.modify_eq_set _ _ _ _ he]
  obtain ⟨e0,he0⟩:∃ e,es.toList[i]?=some e:=by
   have:=congrArg (fun l:List Value=>l[i]?) h2
   simp only[List.getElem?_map,e1] at this
   cases hx:es.toList[i]? with
   | none=>rw[hx] at this;cases this
   | some e=>exact ⟨e,rfl⟩
  refine ⟨es.modify i fun e=>{ e with key:=ek k,val:=ev v },clock,?_,?_,?_,?_,?_⟩
  ·simp only[Zo,h1];rw[Array.getElem?_setIfInBounds_self_of_lt hlt]
  ·rw[hset e0 he0,List.map_set,h2,Ux hi,List.map_set]
  ·rw[hset e0 he0,List.map_set,h3,Ux hi,List.map_set]
  ·rw[hset e0 he0]
   have:(es.toList.set i { e0 with key:=ek k,val:=ev v }).map (·.born)=es.toList.map (·.born):=by
    rw[List.map_set]
    refine List.ext_getElem? fun j=>?_
    rw[List.getElem?_set]
    split
    ·rename_i hij
     subst hij
     split
     ·simp[he0]
     ·rename_i hl
      simp only[List.length_map] at hl
      rw[List.getElem?_eq_none (by simpa using hl)]
    ·rfl
   have hp:((es.toList.set i { e0 with key:=ek k,val:=ev v }).map (·.born)).Pairwise (·<·):=by rw[this];exact List.pairwise_map.2 h4
   exact List.pairwise_map.1 hp
  ·intro e he
   rw[hset e0 he0] at he
   rcases List.mem_or_eq_of_mem_set he with he|he
   ·exact h5 e he
   ·rw[he];exact h5 e0 (List.mem_of_getElem? he0)
end maps
def Xx (a b:Int):Int:=if a<b then -1 else if b<a then 1 else 0
structure St where
 n:Int
 r:Int
 deriving DecidableEq
def St.val (s:St):Value:=.agg #[.int .i64 s.n,.int .i64 s.r]
def Ze (s:St):Bool:=decide (1≤s.n∧s.n≤1048576∧0≤s.r∧s.r<8)
def XQ (a b:St):Int:=if Xx a.n b.n != 0 then Xx a.n b.n else Xx a.r b.r
theorem XH (a b:Int) (w:World) :
  Calls Tryz.prog 59 #[.int .i64 a,.int .i64 b] w fun e w'=>e=.returned (.int .i64 (Xx a b))∧w=w':=by
 by_cases h1:a<b
 ·go_enter Tryz.func59,Tryz.ntmps59
  go_wp2
  go_ret
  exact ⟨by simp[Xx,h1],rfl⟩
 ·by_cases h2:b<a
  ·go_enter Tryz.func59,Tryz.ntmps59
   go_wp2
   go_ret
   exact ⟨by simp[Xx,h1,h2],rfl⟩
  ·go_enter Tryz.func59,Tryz.ntmps59
   go_wp2
   go_ret
   exact ⟨by rw[Xx,if_neg (by omega),if_neg (by omega)];rfl,rfl⟩
theorem TW (a b c d:Int) (w:World) :
  Calls Tryz.prog 42 #[.agg #[.int .i64 a,.int .i64 b],.agg #[.int .i64 c,.int .i64 d]] w
   fun e w'=>e=.returned (.int .i64 (XQ ⟨a,b⟩ ⟨c,d⟩))∧Below w.heap.size w w':=by
 by_cases h1:(Xx a c != 0)=true
 ·go_enter Tryz.func42,Tryz.ntmps42
  go_wp2_with (go_at_call 59;refine (XH _ _ _).mono ?_;rintro e w' ⟨rfl,rfl⟩)
  go_ret
  exact ⟨by simp[XQ,h1],((Below.refl _ _).alloc (Nat.le_refl _) _).alloc (by simp) _⟩
 ·have h1:(Xx a c != 0)=false:=by simpa using h1
  go_enter Tryz.func42,Tryz.ntmps42
  go_wp2_with (go_at_call 59;refine (XH _ _ _).mono ?_;rintro e w' ⟨rfl,rfl⟩)
  go_ret
  exact ⟨by simp[XQ,h1],((Below.refl _ _).alloc (Nat.le_refl _) _).alloc (by simp) _⟩
theorem Rq (a b:Int) (w:World) :
  Calls Tryz.prog 41 #[.agg #[.int .i64 a,.int .i64 b]] w
   fun e w'=>e=.returned (.bool (Ze ⟨a,b⟩))∧Below w.heap.size w w':=by
 by_cases h1:1≤a
 ·by_cases h2:a≤1048576
  ·by_cases h3:0≤b
   ·by_cases h4:b<8
    ·have hr:Ze ⟨a,b⟩=true:=by simp only[Ze,decide_eq_true_eq];exact ⟨h1,h2,h3,h4⟩
     rw[hr];clear hr
     go_enter Tryz.func41,Tryz.ntmps41
     go_wp2
     go_ret
     exact ⟨rfl,(Below.refl _ _).alloc (Nat.le_refl _) _⟩
    ·have hr:Ze ⟨a,b⟩=false:=by simp only[Ze,decide_eq_false_iff_not];omega
     rw[hr];clear hr
     go_enter Tryz.func41,Tryz.ntmps41
     go_wp2
     go_ret
     exact ⟨rfl,(Below.refl _ _).alloc (Nat.le_refl _) _⟩
   ·have hr:Ze ⟨a,b⟩=false:=by simp only[Ze,decide_eq_false_iff_not];omega
    rw[hr];clear hr
    go_enter Tryz.func41,Tryz.ntmps41
    go_wp2
    go_ret
    exact ⟨rfl,(Below.refl _ _).alloc (Nat.le_refl _) _⟩
  ·have hr:Ze ⟨a,b⟩=false:=by simp only[Ze,decide_eq_false_iff_not];omega
   rw[hr];clear hr
   go_enter Tryz.func41,Tryz.ntmps41
   go_wp2
   go_ret
   exact ⟨rfl,(Below.refl _ _).alloc (Nat.le_refl _) _⟩
 ·have hr:Ze ⟨a,b⟩=false:=by simp only[Ze,decide_eq_false_iff_not];omega
  rw[hr];clear hr
  go_enter Tryz.func41,Tryz.ntmps41
  go_wp2
  go_ret
  exact ⟨rfl,(Below.refl _ _).alloc (Nat.le_refl _) _⟩
end Go.Proofs.YtlgipkemoldckaaGreatDoor
namespace Go.Proofs.YtlgipkemoldckaaGreatDoor
open Go.ChangeShapes Go.WideShapes Go.RowKit Go.Deep
theorem Tryz.own:ownKnob Tryz.prog.godebug=none:=by kernel_rfl
theorem Xq {α:Type} {p:Nat→α→Prop}:∀ (n:Nat),(∀ i,i<n→∃ x,p i x)→∃ l:List α,l.length=n∧∀ i x,l[i]?=some x→p i x
 | 0,_=>⟨[],rfl,fun i x h=>by simp at h⟩
 | n+1,h=>by
  obtain ⟨l,hl,hp⟩:=Xq n (fun i hi=>h i (by omega))
  obtain ⟨x,hx⟩:=h n (by omega)
  refine ⟨l++[x],by simp[hl],fun i y hy=>?_⟩
  by_cases hi:i<n
  ·rw[List.getElem?_append_left (by omega)] at hy
   exact hp i y hy
  ·rw[List.getElem?_append_right (by omega)] at hy
   have:i - l.length=0:=by
    have:=(List.getElem?_eq_some_iff.1 hy).1
    simp at this;omega
   rw[this] at hy
   cases hy
   have:i=n:=by omega
   subst this
   exact hx
def Z6 {α:Type} (enc:α→List Value) (k:Nat) (w:World) (v:Value) (l:List α):Prop :=
 ∃ a cap,v=.slice a l.length cap∧l.length≤cap∧cap≤maxLen∧(l≠[]→∃ b off,a=some ⟨b,off,none⟩∧∀ i x,l[i]?=some x→∀ j u,(enc x)[j]?=some u→w.cell? ⟨b,off+i*k+j,none⟩=some u)
theorem Z6.of {α:Type} {enc:α→List Value} {k:Nat} {w w':World} {v:Value} {l:List α} (h:Z6 enc k w v l) (hb:∀ b o u,w.cell? ⟨b,o,none⟩=some u→w'.cell? ⟨b,o,none⟩=some u):Z6 enc k w' v l:=by
 obtain ⟨a,cap,h1,h2,h3,h4⟩:=h
 refine ⟨a,cap,h1,h2,h3,fun hl=>?_⟩
 obtain ⟨b,off,h5,h6⟩:=h4 hl
 exact ⟨b,off,h5,fun i x hi j u hj=>hb _ _ _ (h6 i x hi j u hj)⟩
theorem Z6.below {α:Type} {enc:α→List Value} {k:Nat} {w w':World} {v:Value} {l:List α} (h:Z6 enc k w v l) (hb:Below w.heap.size w w'):Z6 enc k w' v l:=h.of (fun _ _ _ hu=>Z0 hb hu)
section
variable {H:Type} {enc:TypeId × Value→H} {P:Program} {w:World} {base:Nat} {spare:Nat→Bool} {held:Bool}
end
section
variable {H:Type} {enc:TypeId × Value→H} {w:World} {base:Nat} {spare:Nat→Bool} {held:Bool}
theorem Z05 {l:List Value} (h:l.length=2):∃ a b,l=[a,b]:=by
 match l,h with
 | [a,b],_=>exact ⟨a,b,rfl⟩
theorem Sh {fuel:Nat} {cs:List Value} {x:DataW H × List MemPlace} (h:DataW.trod enc Tryz.prog w base spare held fuel 23 cs=some x):∃ s:St,cs=[.int .i64 s.n,.int .i64 s.r]:=by
 obtain ⟨xs,n,_,_,hlen,hxl,hf⟩:=DataW.trod_struct Tryz.underlying23 h
 have hc:Tryz.prog.cellsOf 23=2:=by kernel_rfl
 have hc3:Tryz.prog.cellsOf 3=1:=by kernel_rfl
 rw[hc] at hlen
 obtain ⟨a,b,rfl⟩:=Z05 hlen
 have f0:DataW.trod enc Tryz.prog w base spare held n 3 [a]=xs[0]?:=by simpa [hc3] using hf 0 _ rfl
 have f1:DataW.trod enc Tryz.prog w base spare held n 3 [b]=xs[1]?:=by simpa [hc3] using hf 1 _ rfl
 have e0:xs[0]?=some (xs[0]'(by simp at hxl;omega)):=List.getElem?_eq_getElem _
 have e1:xs[1]?=some (xs[1]'(by simp at hxl;omega)):=List.getElem?_eq_getElem _
 obtain ⟨p,hp,_⟩:=DataW.trod_int Tryz.underlying3 (f0.trans e0)
 obtain ⟨q,hq,_⟩:=DataW.trod_int Tryz.underlying3 (f1.trans e1)
 simp at hp hq
 exact ⟨⟨p,q⟩,by rw[hp,hq]⟩
end
end Go.Proofs.YtlgipkemoldckaaGreatDoor
namespace Go.Proofs.YtlgipkemoldckaaGreatDoor
open Go.RowKit
def Own {α:Type} (ea:α→List Value) (k:Nat) (e:TypeId) (base:Nat) (w:World) (v:Value) (l:List α):Prop:=w.ownsRow base e k v l.length (l.flatMap ea)
section
variable {α:Type} {ea:α→List Value} {k:Nat} {e:TypeId} {base:Nat} {w:World} {v:Value} {l:List α}
theorem Y9 (hk:∀ x,(ea x).length=k):∀ l:List α,(l.flatMap ea).length=l.length*k
 | []=>by simp
 | x :: l=>by rw[List.flatMap_cons,List.length_append,hk,Y9 hk l,List.length_cons,Nat.add_mul,Nat.one_mul,Nat.add_comm]
theorem getElem?_flatMap_k (hk:∀ x,(ea x).length=k):∀ (l:List α) (i:Nat) (x:α),l[i]?=some x→∀ j u,(ea x)[j]?=some u→(l.flatMap ea)[i*k+j]?=some u
 | [],i,x,h,_,_,_=>by simp at h
 | y :: l,0,x,h,j,u,hj=>by
  simp at h
  subst h
  have:=(List.getElem?_eq_some_iff.1 hj).1
  rw[List.flatMap_cons,Nat.zero_mul,Nat.zero_add,List.getElem?_append_left this]
  exact hj
 | y :: l,i+1,x,h,j,u,hj=>by
  have ih:=getElem?_flatMap_k hk l i x (by simpa using h) j u hj
  rw[List.flatMap_cons,List.getElem?_append_right (by rw[hk,Nat.add_mul];omega),hk]
  have:(i+1)*k+j - k=i*k+j:=by rw[Nat.add_mul];omega
  rw[this]
  exact ih
theorem Own.nil:Own ea k e base w (.slice none 0 0) ([]:List α):=⟨by simp,.inl ⟨rfl,rfl⟩⟩
theorem Own.alloc (h:Own ea k e base w v l) (o:Obj):Own ea k e base (w.alloc o) v l:=World.ownsRow.alloc h o
theorem Own.drew (h:Own ea k e base w v l):Own ea k e base w.drew v l:=h
theorem Own.blk (h:Own ea k e base w v l):∀ b,v.ownBlock=some b→base≤b∧b<w.heap.size:=World.ownsRow.lt h
theorem Own.ext {S:Nat→Prop} {w':World} (h:Own ea k e base w v l) (hx:Ext S w w') (hn:∀ b,v.ownBlock=some b→¬ S b):Own ea k e base w' v l:=by
 obtain ⟨h1,h2⟩:=h
 refine ⟨h1,h2.imp id ?_⟩
 rintro ⟨g,cap,cur,hv,hb,hg,h3⟩
 have hlt:=(Array.getElem?_eq_some_iff.1 hg).1
 exact ⟨g,cap,cur,hv,hb,(hx.block g hlt (hn g (by rw[hv];rfl))).trans hg,h3⟩
theorem Own.mono {b':Nat} (h:Own ea k e base w v l) (hb:b'≤base):Own ea k e b' w v l:=by
 obtain ⟨h1,h2⟩:=h
 refine ⟨h1,h2.imp id ?_⟩
 rintro ⟨g,cap,cur,hv,hb',h3⟩
 exact ⟨g,cap,cur,hv,by omega,h3⟩
theorem Own.slice (h:Own ea k e base w v l) (hk:∀ x,(ea x).length=k):Z6 ea k w v l:=by
 have h0:=h
 obtain ⟨h1,h2⟩:=h
 rcases h2 with ⟨rfl,hn⟩|⟨g,cap,cur,rfl,hb,hg,hnc,hcm,hcs,htake⟩
 ·have:l=[]:=List.eq_nil_of_length_eq_zero hn
  subst this
  exact ⟨none,0,rfl,Nat.le_refl _,Nat.zero_le _,fun hne=>absurd rfl hne⟩
 ·refine ⟨some ⟨g,0,none⟩,cap,rfl,hnc,hcm,fun _=>⟨g,0,rfl,fun i x hi j u hj=>?_⟩⟩
  have hil:=(List.getElem?_eq_some_iff.1 hi).1
  have hjl:=(List.getElem?_eq_some_iff.1 hj).1
  rw[hk] at hjl
  have hlt:i*k+j<l.length*k:=by
   have:=Nat.mul_le_mul_right k (show i+1≤l.length from hil)
   rw[Nat.add_mul,Nat.one_mul] at this
   omega
  have:=World.ownsRow.cellAt h0 (i*k+j) hlt
  rw[getElem?_flatMap_k hk l i x hi j u hj] at this
  rw[Nat.zero_add]
  exact this
theorem Own.tag (h:Own ea k e base w v l) {b:Nat} (hb:v.ownBlock=some b):∃ cur,w.heap[b]?=some (.cells cur e (0,0)):=by
 obtain ⟨_,h3⟩:=h
 rcases h3 with ⟨h3,_⟩|⟨g,cap,cur,h3,_,hg,_⟩
 ·rw[h3] at hb;cases hb
 ·rw[h3] at hb;cases hb;exact ⟨cur,hg⟩
theorem Own.eq_slice (h:Own ea k e base w v l):(v=.slice none 0 0∧l=[])∨∃ g cap,v=.slice (some ⟨g,0,none⟩) l.length cap∧base≤g∧g<w.heap.size:=by
 obtain ⟨h1,h2⟩:=h
 rcases h2 with ⟨rfl,hn⟩|⟨g,cap,cur,rfl,hb,hg,h3⟩
 ·exact .inl ⟨rfl,List.eq_nil_of_length_eq_zero hn⟩
 ·exact .inr ⟨g,cap,rfl,hb,(Array.getElem?_eq_some_iff.1 hg).1⟩
theorem Ext.of_grown {w w':World} {row:Option Nat} (h:w.grownBy w' row):Ext (fun b=>row=some b) w w' :=
 ⟨h.os,h.tape,h.output,h.size,fun b hb hn=>h.block b hb (fun e=>hn e.symm)⟩
theorem YC {P:Program} {ops:Array Oper} {rest:List Oper} {o:Oper} {a:Act} {Q:Exit→Act→World→Prop} (hgd:o.guard=none) (s x:Operand) (t:TypeId)
  (ho:o.op=.call { callee:=.builtin .append,args:=#[s,x],argTypes:=#[t,t] })
  (i:TypeInfo) (z:Value) (bytes:Nat) (ht:P.underlying t=some (.slice e)) (hi:P.info? e=some i) (hz:i.zero=some z)
  (hsize:i.size=k) (hby:i.bytes=bytes) (hzs:z.cells.size=k) (hk0:0<k) (hk:∀ x,(ea x).length=k) (h1:∀ x,∀ u∈ea x,u.oneCell'=true)
  (hs:a.eval s=v) (hown:Own ea k e base w v l) (y:α) (nb c:Nat) (hx:a.eval x=.slice (some ⟨nb,0,none⟩) 1 c) (hnews:∀ j u,(ea y)[j]?=some u→w.cell? ⟨nb,j,none⟩=some u)
  (h63:l.length+1≤maxLen) (hbytes:(l.length+1)*bytes≤140737488355328) (hbase:base≤w.heap.size)
  (h:∀ v' w',Own ea k e base w' v' (l++[y])→Ext (fun b=>v.ownBlock=some b) w w'→wpList P ops Q rest (a.put o.dst v') w'):wpList P ops Q (o :: rest) a w:=by
 refine wpList_append_own w hgd s x t ho base e i z k bytes ht hi hz hsize hby hzs hk0 v l.length (l.flatMap ea) hs hown ⟨nb,0,none⟩ 1 c (ea y) hx (by rw[hk,Nat.one_mul]) (fun j u hj=>?_) (h1 y) h63 hbytes hbase (fun v' w' h2 h3 _=>h v' w' ?_ (Ext.of_grown h3))
 ·have:=hnews j u hj
  rw[show (Addr.add ⟨nb,0,none⟩ j)=⟨nb,j,none⟩ from by unfold Addr.add;split <;> simp_all]
  exact this
 ·unfold Own
  rw[List.length_append,List.flatMap_append]
  simpa using h2
end
section
variable {P:Program} {w:World} {α:Type} {ea:α→List Value} {k:Nat} {e:TypeId} {base:Nat} {v:Value} {l:List α}
theorem VZ (t ty:TypeId) (i:TypeInfo) (z:Value) (size bytes:Nat) (ht:P.underlying t=some (.slice e)) (hi:P.info? e=some i) (hz:i.zero=some z)
  (hsize:i.size=size) (hby:i.bytes=bytes) (v:Value) (n:Nat) (xs:List Value) (hown:w.ownsRow base e size v n xs)
  (a:Addr) (m c:Nat) (news:List Value) (hl:news.length=m*size) (hnews:∀ j u,news[j]?=some u→w.cell? (a.add j)=some u) (h1:∀ u∈news,u.oneCell'=true)
  (h63:n+m≤maxLen) (hbytes:(n+m)*bytes≤140737488355328) (hm:0<m) {v':Value} {w':World}
  (hr:(Builtin.append_ #[t,t] ty #[v,.slice (some a) m c]).run P w=.ok v' w'):∀ b,v'.ownBlock=some b→v.ownBlock=some b∨w.heap.size≤b:=by
 subst hsize
 subst hby
 have hsmall:n+m≤9223372036854775807:=by simp only[maxLen] at h63;omega
 rcases hown.2 with ⟨rfl,rfl⟩|⟨g,cap,cur,rfl,hbg,hg,hnc,hcm,hcs,htake⟩
 ·have hr2:=run_append_nil (P:=P) w t ty e i z ht hi hz a m c news hl hnews hm (by omega) (by have hb:=hbytes;simp only[Nat.zero_add] at hb;omega)
  rw[hr] at hr2
  cases hr2
  intro b hb
  simp[Value.ownBlock] at hb
  exact .inr (by omega)
 ·by_cases hroom:n+m≤cap
  ·have hfit:n*i.size+news.length≤cur.size:=by rw[hl,hcs,←Nat.add_mul];exact Nat.mul_le_mul_right _ hroom
   have hr2:=run_append_room (P:=P) w t ty e i ht hi g n cap cur hg a m c news hl hnews h1 hroom hfit
   rw[hr] at hr2
   cases hr2
   intro b hb
   simp[Value.ownBlock] at hb ⊢
   exact .inl hb
  ·have holds:∀ j u,xs[j]?=some u→w.cell? ((⟨g,0,none⟩:Addr).add j)=some u:=hown.cells (g:=g) rfl
   have hr2:=run_append_grow (P:=P) w t ty e i z ht hi hz ⟨g,0,none⟩ n cap xs hown.1 holds a m c news hl hnews (by omega) (by omega) (growslice_fits (by omega) hbytes)
   rw[hr] at hr2
   cases hr2
   intro b hb
   simp[Value.ownBlock] at hb
   exact .inr (by omega)
theorem X2 (t ty:TypeId) (i:TypeInfo) (z:Value) (bytes:Nat) (ht:P.underlying t=some (.slice e)) (hi:P.info? e=some i) (hz:i.zero=some z)
  (hsize:i.size=k) (hby:i.bytes=bytes) (hzs:z.cells.size=k) (hk0:0<k) (hk:∀ x,(ea x).length=k) (h1:∀ x,∀ u∈ea x,u.oneCell'=true)
  (hown:Own ea k e base w v l) (y:α) (nb c:Nat) (hnews:∀ j u,(ea y)[j]?=some u→w.cell? ⟨nb,j,none⟩=some u)
  (h63:l.length+1≤maxLen) (hbytes:(l.length+1)*bytes≤140737488355328) (hbase:base≤w.heap.size) :
  ∃ v' w',(Builtin.append_ #[t,t] ty #[v,.slice (some ⟨nb,0,none⟩) 1 c]).run P w=.ok v' w'∧Own ea k e base w' v' (l++[y])∧Ext (fun b=>v.ownBlock=some b) w w' ∧
   ∀ b,v'.ownBlock=some b→v.ownBlock=some b∨w.heap.size≤b:=by
 have hn:∀ j u,(ea y)[j]?=some u→w.cell? (Addr.add ⟨nb,0,none⟩ j)=some u:=fun j u hj=>by
  rw[show (Addr.add ⟨nb,0,none⟩ j)=⟨nb,j,none⟩ from by unfold Addr.add;split <;> simp_all]
  exact hnews j u hj
 obtain ⟨v',w',hr,h2,h3,_⟩:=run_append_own (P:=P) w base t ty e i z k bytes ht hi hz hsize hby hzs hk0 v l.length (l.flatMap ea) hown ⟨nb,0,none⟩ 1 c (ea y) (by rw[hk,Nat.one_mul]) hn (h1 y) h63 hbytes hbase
 refine ⟨v',w',hr,?_,Ext.of_grown h3,VZ t ty i z k bytes ht hi hz hsize hby v l.length (l.flatMap ea) hown ⟨nb,0,none⟩ 1 c (ea y) (by rw[hk,Nat.one_mul]) hn (h1 y) h63 hbytes (by omega) hr⟩
 unfold Own
 rw[List.length_append,List.flatMap_append]
 simpa using h2
theorem Zt {ops:Array Oper} {rest:List Oper} {o:Oper} {a:Act} {Q:Exit→Act→World→Prop} (hgd:o.guard=none) (s x:Operand) (t:TypeId)
  (ho:o.op=.call { callee:=.builtin .append,args:=#[s,x],argTypes:=#[t,t] })
  (i:TypeInfo) (z:Value) (bytes:Nat) (ht:P.underlying t=some (.slice e)) (hi:P.info? e=some i) (hz:i.zero=some z)
  (hsize:i.size=k) (hby:i.bytes=bytes) (hzs:z.cells.size=k) (hk0:0<k) (hk:∀ x,(ea x).length=k) (h1:∀ x,∀ u∈ea x,u.oneCell'=true)
  (hs:a.eval s=v) (hown:Own ea k e base w v l) (y:α) (nb c:Nat) (hx:a.eval x=.slice (some ⟨nb,0,none⟩) 1 c) (hnews:∀ j u,(ea y)[j]?=some u→w.cell? ⟨nb,j,none⟩=some u)
  (h63:l.length+1≤maxLen) (hbytes:(l.length+1)*bytes≤140737488355328) (hbase:base≤w.heap.size)
  (h:∀ v' w',Own ea k e base w' v' (l++[y])→Ext (fun b=>v.ownBlock=some b) w w'→(∀ b,v'.ownBlock=some b→v.ownBlock=some b∨w.heap.size≤b)→wpList P ops Q rest (a.put o.dst v') w'):wpList P ops Q (o :: rest) a w:=by
 obtain ⟨v',w',hr,h2,h3,h4⟩:=X2 (P:=P) t o.type i z bytes ht hi hz hsize hby hzs hk0 hk h1 hown y nb c hnews h63 hbytes hbase
 refine wpList_plain hgd fun _ hK=>?_
 unfold Oper.wp execOp
 simp only[ho,resolve,invoke,builtin,Sem.run_bind,Sem.run_pure,Result.andThen_ok,List.map_toArray,List.map_cons,List.map_nil,hs,hx,hr]
 exact hK _ _ (h v' w' h2 h3 h4)
end
end Go.Proofs.YtlgipkemoldckaaGreatDoor
namespace Go.Proofs.YtlgipkemoldckaaGreatDoor
open Go Go.RowKit Go.Deep
section
variable {P:Program} {ops:Array Oper} {Q:Exit→Act→World→Prop} {md:Region.Mode} {S:World→Prop} {Z:Nat→Bool}
theorem Zg {i:Nat} {o:Oper} {d:Option Tmp} {v:Value} {fuel:Nat} {listed:Array Bool} {a:Act} {w w':World} (hr:Region.ready md ops listed=[i]) (ho:ops[i]?=some o) (hd:o.dst=d) (hw:Region.wanted o (yielded ops a.tmps)=true)
  (hv:(execOp a.eval o).run P w=.ok (.value v) w') (hS:Z i=false→S w') (h:Zk P md ops Q S Z fuel (listed.setIfInBounds i true) (a.put d v) w'):Zk P md ops Q S Z (fuel+1) listed a w:=by
 subst hd
 exact Wx hr (wpOp_step ho fun K' hK=>by
  rw[if_pos hw,Oper.wp,hv]
  exact hK _ _ ⟨hS,h⟩)
theorem Xt {o:Oper} {a:Act} {w w':World} {s x:Operand} {t tn:TypeId} {v vx v':Value} (hop:o.op=.call { callee:=.builtin .append,args:=#[s,x],argTypes:=#[t,tn] }) (hs:a.eval s=v) (hx:a.eval x=vx)
  (hr:(Builtin.append_ #[t,tn] o.type #[v,vx]).run P w=.ok v' w'):(execOp a.eval o).run P w=.ok (.value v') w':=by
 unfold execOp
 simp only[hop,resolve,invoke,builtin,Sem.run_bind,Sem.run_pure,Result.andThen_ok,List.map_toArray,List.map_cons,List.map_nil,hs,hx,hr]
end
section
variable {P:Program} {ops:Array Oper} {Q:Exit→Act→World→Prop} {md:Region.Mode} {S:World→Prop} {Z:Nat→Bool}
def RJ (md:Region.Mode) (ops:Array Oper) (i:Nat) (js:List Nat) (listed:Array Bool):Prop :=
 ∀ j∈js,listed.getD j true=false∧∃ oj,ops[j]?=some oj∧∃ e∈oj.after,Region.binds md e=true∧(e.on=i∨e.on∈js)
def Tx (md:Region.Mode) (ops:Array Oper) (Z:Nat→Bool) (listed:Array Bool) (i:Nat) (js:List Nat):Bool :=
 (js.all fun j=>!(listed.getD j true) && (match ops[j]? with
  | some o=>o.after.any fun e=>Region.binds md e && (e.on == i || js.contains e.on)
  | none=>false)) && (List.range ops.size).all fun j=>listed.getD j true || !Z j || js.contains j
theorem Ve {listed:Array Bool} {i:Nat} {js:List Nat} (h:Tx md ops Z listed i js=true):RJ md ops i js listed∧∀ j oj,Z j=true→listed.getD j true=false→ops[j]?=some oj→j∈js:=by
 unfold Tx at h
 rw[Bool.and_eq_true] at h
 refine ⟨fun j hj=>?_,fun j oj hz hu ho=>?_⟩
 ·have:=List.all_eq_true.1 h.1 j hj
  rw[Bool.and_eq_true,Bool.not_eq_true'] at this
  refine ⟨this.1,?_⟩
  cases ho:ops[j]? with
  | none=>rw[ho] at this;exact absurd this.2 (by simp)
  | some o =>
   rw[ho] at this
   obtain ⟨k,hk,h2⟩:=Array.any_eq_true.1 this.2
   rw[Bool.and_eq_true,Bool.or_eq_true,beq_iff_eq,List.contains_iff_mem] at h2
   exact ⟨o,rfl,_,Array.getElem_mem hk,h2.1,h2.2⟩
 ·have:=List.all_eq_true.1 h.2 j (List.mem_range.2 (Array.getElem?_eq_some_iff.1 ho).1)
  rw[hz,hu] at this
  simpa using this
theorem UP {i:Nat} {oi:Oper} {v:Value} {js:List Nat} (hi:ops[i]?=some oi)
  (hsel:∀ (j:Nat) (o:Oper) cs b,ops[j]?=some o→o.op≠.select cs b) (hQ:∀ c a w,Q (.panic c) (a.put oi.dst v) w→Q (.panic c) a w) (hiz:Z i=false) (fuel:Nat) :
  ∀ (listed:Array Bool) (a:Act) (w:World),RJ md ops i js listed→(∀ j oj,Z j=true→listed.getD j true=false→ops[j]?=some oj→j∈js)→YO md ops i oi listed→YieldsIf P ops S oi v a→S w →
   Zk P md ops Q S Z fuel (listed.setIfInBounds i true) (a.put oi.dst v) w→Zk P md ops Q S Z (fuel+1) listed a w:=by
 induction fuel using Nat.strongRecOn with
 | _ fuel ih =>
  intro listed a w hbl hzj hA hy hS H
  refine ⟨fun h0=>absurd (h0 ▸ hA.1:i∈[]) (by simp),fun j hj=>?_⟩
  rcases Decidable.em (j=i) with hji|hji
  ·rw[hji]
   exact hy.wpOp hi hS ⟨fun _=>hS,H⟩
  ·obtain ⟨n,rfl,hop⟩:=WT H (ready_mono hj hji)
   obtain ⟨hun,oj,hoj,hall⟩:=mem_ready.1 hj
   obtain ⟨hno,hap⟩:=hA.2 [] (by simp) j oj hj hji hoj
   have hjs:j∉js:=fun hm=>by
    obtain ⟨_,oj',hoj',e,he,hb,hd⟩:=hbl j hm
    rw[hoj] at hoj'
    cases hoj'
    rcases hd with hd|hd
    ·exact hno e he hb hd
    ·have h1:=hall e he hb
     rw[UA (hbl _ hd).1] at h1
     cases h1
   have hjz:Z j=false:=by
    cases hz:Z j with
    | false=>rfl
    | true=>exact absurd (hzj j oj hz hun hoj) hjs
   refine wpOp_mono ?_ (wpOp_putIf hoj hap (fun cs b=>hsel i oi cs b hi) (fun cs b=>hsel j oj cs b hoj) hQ hy hop)
   rintro a' w' ⟨hy',hS',H'⟩
   rw[Array.setIfInBounds_comm _ _ (Ne.symm hji)] at H'
   refine ⟨hS',ih n (Nat.lt_succ_self n) _ a' w' (fun q hq=>?_) (fun q oq hq hu=>hzj q oq hq (WC [j] listed hu)) (hA.step hji) hy' (hS' hjz) H'⟩
   obtain ⟨h1,h2⟩:=hbl q hq
   exact ⟨by rw[getD_set_ne true (fun e=>hjs (by rw[e];exact hq))];exact h1,h2⟩
theorem Zx {i:Nat} {oi:Oper} {d:Option Tmp} {v:Value} {fuel:Nat} {listed:Array Bool} {a:Act} {w:World} (js:List Nat) (hi:ops[i]?=some oi) (hd:oi.dst=d) (hiz:Z i=false) (hwait:Tx md ops Z listed i js=true)
  (hs:Region.noSelect ops=true) (hf:Region.free md ops listed i=true) (hr:(Region.ready md ops listed).contains i=true)
  (hQ:∀ c a w,Q (.panic c) (a.put d v) w→Q (.panic c) a w) (hy:YieldsIf P ops S oi v a) (hS:S w)
  (h:Zk P md ops Q S Z fuel (listed.setIfInBounds i true) (a.put d v) w):Zk P md ops Q S Z (fuel+1) listed a w:=by
 subst hd
 exact UP hi (Region.noSelect_spec hs) hQ hiz fuel listed a w (Ve hwait).1 (Ve hwait).2 (YO.of_free hi (by simpa using hr) hf) hy hS h
end
end Go.Proofs.YtlgipkemoldckaaGreatDoor
namespace Go.Proofs.YtlgipkemoldckaaGreatDoor
open Go.RowKit
theorem Wr {K V:Type} [DecidableEq K] {P:Program} {kt:TypeId} {ek:K→Value} (heq:∀ a b (w:World),(Op.equal kt (ek a) (ek b)).run P w=.ok (decide (a=b)) w) (k:K) (w:World) :
  ∀ (es:List MapEntry) (l:List (K × V)) (i:Nat),es.map (·.key)=l.map (fun p=>ek p.1) →
  (Instr.findAsking kt (ek k) es i).run P w=.ok ((Zv l k).map fun j=>(i+j,((es[j]?).map (·.val)).getD undef)) w
 | [],[],i,_=>by simp[Instr.findAsking,Zv]
 | [],_ :: _,_,h=>by simp at h
 | _ :: _,[],_,h=>by simp at h
 | e :: es,p :: l,i,h=>by
  obtain ⟨k',v⟩:=p
  simp only[List.map_cons,List.cons.injEq] at h
  obtain ⟨h1,h2⟩:=h
  have ih:=Wr heq k w es l (i+1) h2
  simp only[Instr.findAsking,Sem.run_bind,h1,heq k k' w,Result.andThen_ok,Sem.run_ite]
  by_cases hk:k'=k
  ·subst hk
   simp[Zv]
  ·have hk':¬ k=k':=fun e=>hk e.symm
   simp only[hk',decide_false,Bool.false_eq_true,if_false,ih,Zv,hk]
   cases Zv l k with
   | none=>rfl
   | some j=>simp[Nat.add_assoc,Nat.add_comm 1 j]
theorem XG.of_equal {K V:Type} [DecidableEq K] {P:Program} {kt:TypeId} {ek:K→Value} {fs:Array Field} (hu:P.underlying kt=some (.struct fs))
  (hagg:∀ a,∃ cs,ek a=.agg cs)
  (check:∀ (em:Bool) (k:K) (w:World),(Instr.checkKey em 10000 kt (ek k)).run P w=.ok () w)
  (heq:∀ a b (w:World),(Op.equal kt (ek a) (ek b)).run P w=.ok (decide (a=b)) w)
  (hsame:∀ a,Instr.sameBits 10000 (ek a) (ek a)=true):XG (V:=V) P kt ek:=by
 refine ⟨check,fun k es l w h=>?_,fun k w=>by simp[Instr.keyThatStays,hsame]⟩
 cases es with
 | nil =>
  cases l with
  | nil=>simp[Instr.findKey,run_underlying hu,Instr.findNow,Zv]
  | cons p l=>simp at h
 | cons e es =>
  have hn:Instr.findNow (.struct fs) (ek k) (e :: es) 0=none:=by
   obtain ⟨cs,hc⟩:=hagg k
   simp[Instr.findNow,hc,Instr.sameNow]
  have:=Wr (V:=V) heq k w (e :: es) l 0 h
  simp only[Instr.findKey,Sem.run_bind,run_underlying hu,Result.andThen_ok,hn]
  rw[this]
  simp
theorem RU:Tryz.prog.underlying 23=some (.struct (Tryz.prog.fieldsOf 23)):=by kernel_rfl
theorem Qw (a b:St) (w:World):(Op.equal 23 a.val b.val).run Tryz.prog w=.ok (decide (a=b)) w:=by
 obtain ⟨a1,a2⟩:=a
 obtain ⟨b1,b2⟩:=b
 unfold Op.equal Op.maxDepth St.val
 go_simp
 by_cases h1:a1=b1 <;> by_cases h2:a2=b2 <;> simp[h1,h2]
theorem TP (em:Bool) (a:St) (w:World):(Instr.checkKey em 10000 23 a.val).run Tryz.prog w=.ok () w:=by
 obtain ⟨a1,a2⟩:=a
 kernel_rfl
theorem ZU {V:Type}:XG (V:=V) Tryz.prog 23 St.val :=
 XG.of_equal RU (fun a=>⟨_,rfl⟩) TP Qw (fun a=>by simp[St.val,Instr.sameBits])
theorem ZT (a b:ByteArray):a.toList=b.toList↔a=b:=by
 rw[ByteArray.toList_eq,ByteArray.toList_eq]
 constructor
 ·intro h
  obtain ⟨x⟩:=a
  obtain ⟨y⟩:=b
  exact congrArg ByteArray.mk (Array.toList_inj.1 h)
 ·intro h;rw[h]
end Go.Proofs.YtlgipkemoldckaaGreatDoor
namespace Go.Proofs.YtlgipkemoldckaaGreatDoor
open Go.RowKit Go.Deep
def Zr (c:UInt8):List UInt8:=if c=34∨c=92 then [92,c] else [c]
def Za (s:List UInt8):List UInt8:=34 :: (s.flatMap Zr++[34])
def u8c (x:UInt8):List Value:=[.int .u8 x.toNat]
theorem Yb (x:UInt8):(u8c x).length=1:=rfl
theorem XN (x:UInt8):∀ u∈u8c x,u.oneCell'=true:=by
 intro u hu
 simp only[u8c,List.mem_cons,List.not_mem_nil,or_false] at hu
 subst hu
 rfl
theorem Wq (W:World) (x:UInt8):∀ j u,(u8c x)[j]?=some u→(W.alloc (.cells #[.int .u8 x.toNat] 5)).cell? ⟨W.heap.size,j,none⟩=some u:=by
 intro j u hj
 rw[World.cell?_alloc_at _ _ _ _ rfl,←hj,u8c]
 simp
theorem QO:(Tryz.prog.info? 5).map (fun i=>(i.zero,i.size,i.bytes))=some (some (.int .u8 0),1,1):=by kernel_rfl
theorem Ur:∀ (bs:List UInt8) (s:ByteArray),(bs.map fun x=>(x.toNat:Int)).foldl (fun r n=>r.push (UInt8.ofNat n.toNat)) s=⟨(s.data.toList++bs).toArray⟩
 | [],s=>by cases s;simp
 | b :: bs,s=>by
  rw[List.map_cons,List.foldl_cons,Ur bs]
  congr 1
  simp[ByteArray.push]
def stL (s:St):List UInt8:=if s≠⟨0,0⟩∧Ze s=false then [] else Lib.itoa s.n++46 :: Lib.itoa s.r
theorem VV {W:World} {v:Value} {bs:List UInt8} (h:Z6 u8c 1 W v bs):(convert 64 9 v).run Tryz.prog W=.ok (.string ⟨bs.toArray⟩) W:=by
 obtain ⟨a,cap,rfl,hcap,hmax,hcs⟩:=h
 rw[run_convert_bytes_string W 64 9 5 a bs.length cap Tryz.underlying64 (by kernel_rfl) Tryz.underlying9]
 cases a with
 | none =>
  have hys:bs=[]:=Classical.byContradiction fun hn=>by obtain ⟨b,o,e,_⟩:=hcs hn;cases e
  subst hys
  simp[Conv.bytesToString]
  rfl
 | some ad =>
  have hl:=run_loadCells_list (P:=Tryz.prog) W ad ((bs.map fun x=>(x.toNat:Int)).map (Value.int .u8)) (fun j v hj=>by
   rw[List.map_map,List.getElem?_map] at hj
   cases hb:bs[j]? with
   | none=>rw[hb] at hj;cases hj
   | some x =>
    rw[hb] at hj
    cases hj
    obtain ⟨b,o,e,h4⟩:=hcs (by rintro rfl;simp at hb)
    cases e
    have:=h4 j x hb 0 _ rfl
    rw[Nat.mul_one,Nat.add_zero] at this
    rw[show (Addr.add ⟨b,o,none⟩ j)=⟨b,o+j,none⟩ from by unfold Addr.add;split <;> simp_all]
    exact this)
  have:=run_bytesToString (P:=Tryz.prog) W ad bs.length cap (bs.map fun x=>(x.toNat:Int)) (by simpa using hl)
  rw[this,Ur]
  simp
end Go.Proofs.YtlgipkemoldckaaGreatDoor
namespace Go.Proofs.YtlgipkemoldckaaGreatDoor
open Go.RowKit
theorem VO (a b:Int) (w:World) :
  Calls Tryz.prog 32 #[.agg #[.int .i64 a,.int .i64 b]] w
   fun e w'=>e=.returned (.bool (Ze ⟨a,b⟩))∧Below w.heap.size w w':=by
 by_cases h1:1≤a
 ·by_cases h2:a≤1048576
  ·by_cases h3:0≤b
   ·by_cases h4:b<8
    ·have hr:Ze ⟨a,b⟩=true:=by simp only[Ze,decide_eq_true_eq];exact ⟨h1,h2,h3,h4⟩
     rw[hr];clear hr
     go_enter Tryz.func32,Tryz.ntmps32
     go_wp2
     go_ret
     exact ⟨rfl,(Below.refl _ _).alloc (Nat.le_refl _) _⟩
    ·have hr:Ze ⟨a,b⟩=false:=by simp only[Ze,decide_eq_false_iff_not];omega
     rw[hr];clear hr
     go_enter Tryz.func32,Tryz.ntmps32
     go_wp2
     go_ret
     exact ⟨rfl,(Below.refl _ _).alloc (Nat.le_refl _) _⟩
   ·have hr:Ze ⟨a,b⟩=false:=by simp only[Ze,decide_eq_false_iff_not];omega
    rw[hr];clear hr
    go_enter Tryz.func32,Tryz.ntmps32
    go_wp2
    go_ret
    exact ⟨rfl,(Below.refl _ _).alloc (Nat.le_refl _) _⟩
  ·have hr:Ze ⟨a,b⟩=false:=by simp only[Ze,decide_eq_false_iff_not];omega
   rw[hr];clear hr
   go_enter Tryz.func32,Tryz.ntmps32
   go_wp2
   go_ret
   exact ⟨rfl,(Below.refl _ _).alloc (Nat.le_refl _) _⟩
 ·have hr:Ze ⟨a,b⟩=false:=by simp only[Ze,decide_eq_false_iff_not];omega
  rw[hr];clear hr
  go_enter Tryz.func32,Tryz.ntmps32
  go_wp2
  go_ret
  exact ⟨rfl,(Below.refl _ _).alloc (Nat.le_refl _) _⟩
theorem Sb (a b:St):XQ a b<0↔a.n<b.n∨(a.n=b.n∧a.r<b.r):=by
 unfold XQ Xx
 by_cases h1:a.n<b.n
 ·simp[h1]
 ·by_cases h2:b.n<a.n
  ·simp[h1,h2];omega
  ·have:a.n=b.n:=by omega
   by_cases h3:a.r<b.r
   ·simp[h1,h2,h3,this]
   ·by_cases h4:b.r<a.r <;> simp[h1,h2,h3,h4,this]
def Yh (a b:St):Prop:=a.n<b.n∨(a.n=b.n∧a.r<b.r)
theorem Y0 (a:St):¬ Yh a a:=by unfold Yh;omega
theorem Ys {a b c:St} (h:Yh a b) (k:Yh b c):Yh a c:=by unfold Yh at *;omega
theorem YV (a b:St):Yh a b∨a=b∨Yh b a:=by
 unfold Yh
 by_cases h:a=b
 ·exact .inr (.inl h)
 ·have:¬ (a.n=b.n∧a.r=b.r):=fun e=>h (by cases a;cases b;simp_all)
  omega
structure El where
 id:St
 ch:Int
 gone:Bool
def El.cells (x:El):List Value:=[.int .i64 x.id.n,.int .i64 x.id.r,.int .i64 x.ch,.bool x.gone]
structure OpD where
 id:St
 d0:Int
 d1:Int
 d2:Int
 d3:Int
 d4:Int
 d5:Int
 d6:Int
 d7:Int
 kind:Int
 ref:St
 side:Int
 ch:Int
 under:St
 key:ByteArray
 name:ByteArray
 value:ByteArray
 fr:St
 fa:Bool
 tr:St
 ta:Bool
def OpD.cells (x:OpD):List Value:=[.int .i64 x.id.n,.int .i64 x.id.r,.int .i64 x.d0,.int .i64 x.d1,.int .i64 x.d2,.int .i64 x.d3,.int .i64 x.d4,.int .i64 x.d5,.int .i64 x.d6,.int .i64 x.d7,.int .i64 x.kind,.int .i64 x.ref.n,.int .i64 x.ref.r,.int .i64 x.side,.int .i64 x.ch,.int .i64 x.under.n,.int .i64 x.under.r,.string x.key,.string x.name,.string x.value,.int .i64 x.fr.n,.int .i64 x.fr.r,.bool x.fa,.int .i64 x.tr.n,.int .i64 x.tr.r,.bool x.ta]
structure Z9 where
 op:OpD
 lo:Int
 hi:Int
def Z9.cells (x:Z9):List Value:=[.int .i64 x.op.id.n,.int .i64 x.op.id.r,.int .i64 x.op.d0,.int .i64 x.op.d1,.int .i64 x.op.d2,.int .i64 x.op.d3,.int .i64 x.op.d4,.int .i64 x.op.d5,.int .i64 x.op.d6,.int .i64 x.op.d7,.int .i64 x.op.kind,.int .i64 x.op.ref.n,.int .i64 x.op.ref.r,.int .i64 x.op.side,.int .i64 x.op.ch,.int .i64 x.op.under.n,.int .i64 x.op.under.r,.string x.op.key,.string x.op.name,.string x.op.value,.int .i64 x.op.fr.n,.int .i64 x.op.fr.r,.bool x.op.fa,.int .i64 x.op.tr.n,.int .i64 x.op.tr.r,.bool x.op.ta,.int .i64 x.lo,.int .i64 x.hi]
theorem Z9.len (x:Z9):x.cells.length=28:=rfl
theorem OpD.len (x:OpD):x.cells.length=26:=rfl
theorem OpD.one (x:OpD):∀ u∈x.cells,u.oneCell'=true:=by
 intro u hu
 simp only[OpD.cells,List.mem_cons,List.not_mem_nil,or_false] at hu
 rcases hu with rfl|rfl|rfl|rfl|rfl|rfl|rfl|rfl|rfl|rfl|rfl|rfl|rfl|rfl|rfl|rfl|rfl|rfl|rfl|rfl|rfl|rfl|rfl|rfl|rfl|rfl <;> rfl
theorem Z9.one (x:Z9):∀ u∈x.cells,u.oneCell'=true:=by
 intro u hu
 simp only[Z9.cells,List.mem_cons,List.not_mem_nil,or_false] at hu
 rcases hu with rfl|rfl|rfl|rfl|rfl|rfl|rfl|rfl|rfl|rfl|rfl|rfl|rfl|rfl|rfl|rfl|rfl|rfl|rfl|rfl|rfl|rfl|rfl|rfl|rfl|rfl|rfl|rfl <;> rfl
def ZL (x y:Z9):Int:=XQ x.op.id y.op.id
theorem XD (x y:Z9) (w:World) :
  Calls Tryz.prog 98 #[.agg x.cells.toArray,.agg y.cells.toArray] w
   fun e w'=>e=.returned (.int .i64 (ZL x y))∧Below w.heap.size w w':=by
 unfold Z9.cells
 go_enter Tryz.func98,Tryz.ntmps98
 go_wp2_with fail
 refine (TW _ _ _ _ _).mono ?_
 rintro e w1 ⟨rfl,b1⟩
 go_wp2_with fail
 go_ret
 exact ⟨rfl,(((Below.refl _ _).alloc (Nat.le_refl _) _).alloc (by simp) _).trans (b1.mono (by simp <;> omega))⟩
def Xn (x:El):Bool:=decide (x.ch=0) && !x.gone
structure Spn where
 blk:St
 lo:Nat
 hi:Nat
def Spn.cells (s:Spn):List Value:=[.int .i64 s.blk.n,.int .i64 s.blk.r,.int .i64 s.lo,.int .i64 s.hi]
def Spn.val (s:Spn):Value:=.agg #[.int .i64 s.blk.n,.int .i64 s.blk.r,.int .i64 s.lo,.int .i64 s.hi]
theorem Spn.len (s:Spn):s.cells.length=4:=rfl
theorem Spn.one (x:Spn):∀ u∈x.cells,u.oneCell'=true:=by
 intro u hu
 simp only[Spn.cells,List.mem_cons,List.not_mem_nil,or_false] at hu
 rcases hu with rfl|rfl|rfl|rfl <;> rfl
def cur (l:List El):Nat→List Spn × St × Nat
 | 0=>([],⟨0,0⟩,0)
 | n+1=>match l[n]? with
  | some x=>if Xn x=true then ((cur l n).1++[⟨(cur l n).2.1,(cur l n).2.2,n⟩],x.id,n+1) else cur l n
  | none=>cur l n
def Ye (l:List El):List Spn:=(cur l l.length).1++[⟨(cur l l.length).2.1,(cur l l.length).2.2,l.length⟩]
theorem Sd {l:List El} {n:Nat} {x:El} (hx:l[n]?=some x) (hb:Xn x=true):cur l (n+1)=((cur l n).1++[⟨(cur l n).2.1,(cur l n).2.2,n⟩],x.id,n+1):=by
 rw[cur,hx];simp only[hb,if_true]
theorem S5 {l:List El} {n:Nat} {x:El} (hx:l[n]?=some x) (hb:Xn x=false):cur l (n+1)=cur l n:=by
 rw[cur,hx];simp[hb]
theorem RG (l:List El):∀ n,(cur l n).2.2≤n∧(cur l n).1.length≤n∧∀ s∈(cur l n).1,s.lo≤s.hi∧s.hi≤n
 | 0=>by simp[cur]
 | n+1=>by
  obtain ⟨h1,h2,h3⟩:=RG l n
  rw[cur]
  split
  ·split
   ·refine ⟨Nat.le_refl _,by simp;omega,fun s hs=>?_⟩
    rw[List.mem_append,List.mem_singleton] at hs
    rcases hs with hs|rfl
    ·have:=h3 s hs;omega
    ·exact ⟨h1,Nat.le_succ _⟩
   ·exact ⟨by omega,by omega,fun s hs=>by have:=h3 s hs;omega⟩
  ·exact ⟨by omega,by omega,fun s hs=>by have:=h3 s hs;omega⟩
theorem T7 (l:List El):∀ n,n≤l.length→(cur l n).1.map Spn.blk++[(cur l n).2.1]=⟨0,0⟩ :: ((l.take n).filter Xn).map El.id
 | 0,_=>by simp[cur]
 | n+1,hn=>by
  have ih:=T7 l n (by omega)
  obtain ⟨x,hx⟩:∃ x,l[n]?=some x:=⟨_,List.getElem?_eq_getElem (by omega)⟩
  have ht:l.take (n+1)=l.take n++[x]:=by rw[List.take_add_one,hx];rfl
  rw[ht,List.filter_append,List.map_append,←List.cons_append,←ih]
  cases hb:Xn x with
  | true=>rw[Sd hx hb];simp[hb]
  | false=>rw[S5 hx hb];simp[hb]
theorem So (l:List El):(Ye l).map Spn.blk=⟨0,0⟩ :: (l.filter Xn).map El.id:=by
 have:=T7 l l.length (Nat.le_refl _)
 rw[List.take_length] at this
 rw[Ye,List.map_append,←this]
 rfl
theorem UB (l:List El):(Ye l).length≤l.length+1:=by
 obtain ⟨h1,h2,h3⟩:=RG l l.length
 rw[Ye,List.length_append,List.length_singleton]
 omega
theorem VJ (l:List El):∃ n r,Ye l=⟨⟨0,0⟩,0,n⟩ :: r:=by
 have h0:∀ n,(∃ m r,(cur l n).1=⟨⟨0,0⟩,0,m⟩ :: r)∨((cur l n).1=[]∧(cur l n).2=(⟨0,0⟩,0)):=fun n=>by
  induction n with
  | zero=>exact .inr ⟨rfl,rfl⟩
  | succ n ih =>
   rw[cur]
   split
   ·split
    ·refine .inl ?_
     rcases ih with ⟨m,r,e⟩|⟨e,e2⟩
     ·exact ⟨m,_,by rw[e];rfl⟩
     ·exact ⟨n,[],by rw[e,e2];rfl⟩
    ·exact ih
   ·exact ih
 rcases h0 l.length with ⟨m,r,e⟩|⟨e,e2⟩
 ·exact ⟨m,r++_,by rw[Ye,e];rfl⟩
 ·exact ⟨l.length,[],by rw[Ye,e,e2];rfl⟩
def ZJ (l:List El):List (St × Spn):=(Ye l).tail.map fun s=>(s.blk,s)
def YG (l:List El) (b:St):Option Spn:=Z3 (ZJ l) b
def Xr (l:List El) (b:St):Bool:=(YG l b).isSome
def U0 (l:List El):Prop:=l.Pairwise (fun a b=>a.id≠b.id)
theorem VU (l:List El):(ZJ l).map (·.1)=(l.filter Xn).map El.id:=by
 have:=So l
 obtain ⟨n,r,e⟩:=VJ l
 rw[ZJ,List.map_map]
 rw[e] at this ⊢
 exact (List.cons.inj this).2
theorem TS {l:List El} (h:U0 l):((ZJ l).map (·.1)).Nodup:=by
 rw[VU]
 exact List.pairwise_map.2 (h.filter _)
theorem Wh {K V:Type} [DecidableEq K] (l:List (K × V)) (k:K):(Z3 l k).isSome=true↔k∈l.map (·.1):=by
 induction l with
 | nil=>simp[Z3]
 | cons p r ih =>
  obtain ⟨a,b⟩:=p
  simp only[Z3]
  split
  ·rename_i e;simp[e]
  ·rename_i e;rw[ih];simp[Ne.symm e]
theorem Rd {l:List El} {b:St}:Xr l b=true↔∃ x∈l,Xn x=true∧x.id=b:=by
 rw[Xr,YG,Wh,VU,List.mem_map]
 constructor
 ·rintro ⟨x,hx,e⟩;rw[List.mem_filter] at hx;exact ⟨x,hx.1,hx.2,e⟩
 ·rintro ⟨x,h1,h2,h3⟩;exact ⟨x,List.mem_filter.2 ⟨h1,h2⟩,h3⟩
theorem SM {l:List El} {b:St} {s:Spn} (h:YG l b=some s):s∈Ye l∧s.blk=b:=by
 have:(b,s)∈ZJ l:=by
  unfold YG at h
  generalize ZJ l=L at h
  induction L with
  | nil=>cases h
  | cons p r ih =>
   obtain ⟨k',v'⟩:=p
   simp only[Z3] at h
   split at h
   ·rename_i e;subst e;cases h;exact List.mem_cons_self ..
   ·exact List.mem_cons_of_mem _ (ih h)
 obtain ⟨t,ht,e⟩:=List.mem_map.1 this
 simp only[Prod.mk.injEq] at e
 obtain ⟨rfl,rfl⟩:=e
 exact ⟨List.mem_of_mem_tail ht,rfl⟩
theorem Td (x:El) (w:World):Calls Tryz.prog 92 #[.agg #[.int .i64 x.id.n,.int .i64 x.id.r,.int .i64 x.ch,.bool x.gone]] w fun e w'=>e=.returned (.bool (Xn x))∧Below w.heap.size w w':=by
 by_cases hc:x.ch=0
 ·go_enter Tryz.func92,Tryz.ntmps92
  go_wp2_with fail
  go_ret
  exact ⟨by simp[Xn,hc],(Below.refl _ _).alloc (Nat.le_refl _) _⟩
 ·go_enter Tryz.func92,Tryz.ntmps92
  go_wp2_with fail
  go_ret
  exact ⟨by simp[Xn,hc],(Below.refl _ _).alloc (Nat.le_refl _) _⟩
end Go.Proofs.YtlgipkemoldckaaGreatDoor
namespace Go.Proofs.YtlgipkemoldckaaGreatDoor
open Go.RowKit Go.Deep
section
variable {α:Type} {ea:α→List Value} {k:Nat} {e:TypeId} {base:Nat} {w:World}
end
end Go.Proofs.YtlgipkemoldckaaGreatDoor
namespace Go.Proofs.YtlgipkemoldckaaGreatDoor
open Go.RowKit
theorem Ri:(Tryz.prog.info? 109).map (fun i=>(i.zero,i.size,i.bytes))=some (some (.agg #[.int .i64 0,.int .i64 0,.int .i64 0,.int .i64 0]),4,32):=by kernel_rfl
theorem Rx {α:Type} {ea:α→List Value} {k:Nat} {e:TypeId} {base:Nat} (w:World) (hk:∀ x,(ea x).length=k) (hb:base≤w.heap.size) (x:α):Own ea k e base (w.alloc (.cells (ea x).toArray e)) (.slice (some ⟨w.heap.size,0,none⟩) 1 1) [x]:=by
 refine ⟨by simp[hk],.inr ⟨w.heap.size,1,(ea x).toArray,rfl,hb,World.alloc_heap_new w _,Nat.le_refl _,by decide,by simp[hk],?_⟩⟩
 simp[hk,List.take_of_length_le]
end Go.Proofs.YtlgipkemoldckaaGreatDoor
namespace Go.Proofs.YtlgipkemoldckaaGreatDoor
open Go.RowKit Go.Deep
theorem Xo:Tryz.prog.underlying 64=some (.slice 5):=by kernel_rfl
theorem YZ {l:List UInt8} {k:Nat} {c:UInt8} (h:l[k]?=some c):(l.take (k+1)).flatMap Zr=(l.take k).flatMap Zr++Zr c:=by
 rw[List.take_add_one,h,Option.toList_some,List.flatMap_append]
 simp
theorem Sa (l:List UInt8):(l.flatMap Zr).length≤2*l.length:=by
 induction l with
 | nil=>simp
 | cons c l ih =>
  rw[List.flatMap_cons,List.length_append,List.length_cons]
  have:(Zr c).length≤2:=by unfold Zr;split <;> simp
  omega
theorem WN (l:List UInt8) (k:Nat):((l.take k).flatMap Zr).length≤2*l.length:=by
 have h1:=Sa (l.take k)
 have h2:(l.take k).length≤l.length:=by rw[List.length_take];omega
 omega
theorem UW {c:UInt8} {n:Nat} (hn:n<256) (h:(c.toNat:Int)=(n:Int)):c=UInt8.ofNat n:=by
 have:c.toNat=n:=by omega
 rw[←this];simp
theorem Qx {c:UInt8} {n:Nat} (hn:n<256) (h:¬ (c.toNat:Int)=(n:Int)):c≠UInt8.ofNat n:=fun e=>h (by rw[e];simp;omega)
theorem Vp {w:World} (e:TypeId) (s:ByteArray):Below w.heap.size w (Lib.bytesWorld w e s) :=
 ⟨by unfold Lib.bytesWorld World.freeze;split <;> rfl,by unfold Lib.bytesWorld World.freeze;split <;> rfl,by unfold Lib.bytesWorld World.freeze;split <;> rfl,by rw[Lib.bytesWorld_size];omega,fun k hk=>Lib.bytesWorld_at_old w e s k hk⟩
theorem Wt (s:ByteArray) (w:World) (hs:s.size≤35184372088832) :
  Calls Tryz.prog 79 #[.string s] w fun e w'=>e=.returned (.string ⟨(Za s.data.toList).toArray⟩)∧Below w.heap.size w w':=by
 obtain ⟨i0,hi,hz0,hz1,hz2⟩:=info_parts QO
 have hsz:s.data.toList.length=s.size:=by rw[Array.length_toList];rfl
 have hcv:∀ W:World,(convert 9 64 (.string s)).run Tryz.prog W=.ok (.slice (some ⟨W.heap.size,0,none⟩) s.size (grownCap W s.size 0 5)) (Lib.bytesWorld W 5 s):=fun W=>Lib.run_convert_string_bytes W _ _ _ s Tryz.underlying9 Xo (by kernel_rfl)
 have hown0:Own u8c 1 5 w.heap.size (w.alloc (.cells #[.int .u8 34] 5)) (.slice (some ⟨w.heap.size,0,none⟩) 1 1) [34]:=Rx w Yb (Nat.le_refl _) (34:UInt8)
 have hB0:Below w.heap.size w (w.alloc (.cells #[.int .u8 34] 5)):=(Below.refl _ _).alloc (Nat.le_refl _) _
 have hz0':(w.alloc (.cells #[.int .u8 34] 5)).heap.size=w.heap.size+1:=by simp
 have HO0:=Lib.hid hown0
 have HB0:=Lib.hid hB0
 clear hown0 hB0
 go_enter Tryz.func79,Tryz.ntmps79
 go_upto_region 2 with fail
 generalize w.alloc (.cells #[.int .u8 34] 5)=w1 at *
 have hcv1:=hcv w1
 have hbw:=Vp (w:=w1) 5 s
 have hnew:∀ j c,s.data.toList[j]?=some c→(Lib.bytesWorld w1 5 s).cell? ⟨w.heap.size+1,j,none⟩=some (.int .u8 c.toNat):=fun j c hj=>by
  have hjl:=(List.getElem?_eq_some_iff.1 hj).1
  have:=Lib.bytesWorld_cell w1 5 s j (by omega)
  rw[hz0'] at this
  rw[this,List.getD_eq_getElem?_getD,hj]
  rfl
 have hsz2:=Lib.bytesWorld_size w1 5 s
 rw[hz0'] at hcv1 hsz2
 generalize Lib.bytesWorld w1 5 s=w2 at *
 generalize grownCap w1 s.size 0 5=gc at *
 have HNEW:=Lib.hid hnew
 have HO2:=Jh (HO0.out.ext (Ext.of_below (S:=fun _=>False) hbw) (fun _ _ f=>f))
 have HB2:=Jh (HB0.out.trans (hbw.mono (by omega)))
 clear hnew hbw hcv
 go_wp2_with fail
 go_loopg [3,10] s.size (fun n v iv wr=>∃ (k:Nat) (a:Option Addr) (cap:Nat),n=s.size - k∧k≤s.size∧iv=.int .i64 k∧v=.slice a (34 :: (s.data.toList.take k).flatMap Zr).length cap∧Hid (Own u8c 1 5 w.heap.size wr (.slice a (34 :: (s.data.toList.take k).flatMap Zr).length cap) (34 :: (s.data.toList.take k).flatMap Zr)) ∧
  Hid (∀ b,(Value.slice a (34 :: (s.data.toList.take k).flatMap Zr).length cap).ownBlock=some b→b≠w.heap.size+1)∧Hid (Ext (fun b=>b≠w.heap.size+1∧w.heap.size≤b) w2 wr))
 case atStart =>
  refine ⟨0,some ⟨w.heap.size,0,none⟩,1,by omega,by omega,rfl,rfl,HO2,Jh (fun b hb=>?_),Jh (Ext.refl _ _)⟩
  simp only[Value.ownBlock,Option.some.injEq] at hb
  omega
 case round =>
  obtain ⟨k,a,cap,hn,hk,rfl,rfl,HO,HD,HX⟩:=hrel
  have HN:=Lib.hid hn
  have hql:=WN s.data.toList k
  have hwz:=HX.out.size
  clear hn
  by_cases hkl:k<s.size
  ·obtain ⟨c,hc⟩:∃ c,s.data.toList[k]?=some c:=⟨_,List.getElem?_eq_getElem (by omega)⟩
   have c0:=HX.out.keep (HNEW.out k c hc) (fun h=>h.1 rfl)
   have hkk:(k:Int)<(s.size:Int):=by omega
   have HC:=Lib.hid hc
   have hll:(34 :: (s.data.toList.take k).flatMap Zr).length≤2*s.size+1:=by simp only[List.length_cons];omega
   have hblk:=HO.out.blk
   have HBK:=Lib.hid hblk
   clear hc hql hblk
   generalize hL:34 :: (s.data.toList.take k).flatMap Zr=L at *
   have HL:=Lib.hid hL
   clear hL
   obtain ⟨cn,hcn⟩:∃ cn:Int,(c.toNat:Int)=cn:=⟨_,rfl⟩
   rw[hcn] at c0
   have HCN:=Lib.hid hcn
   clear hcn
   by_cases h1:cn=34
   ·have hq:Zr c=[92,34]:=by rw[show c=34 from UW (n:=34) (by omega) (HCN.out.trans h1)];rfl
    subst h1
    go_wp2_with (at_builtin;refine Zt (ea:=u8c) (k:=1) rfl _ _ _ rfl i0 (.int .u8 0) 1 Xo hi hz0 hz1 hz2 rfl (by omega) Yb XN rfl (HO.out.alloc _) (92:UInt8) wr.heap.size 1 rfl ?_ (by unfold maxLen;omega) (by omega) (by simp;omega) ?_)
    ·exact Wq _ 92
    ·intro v8 w8 hown8 hx8 hfr8
     obtain ⟨a8,c8,rfl,-,-,-⟩:=hown8.slice Yb
     have hz8:=hx8.size
     simp only[World.size_alloc] at hz8
     have hl8:(L++[92]).length=L.length+1:=by simp
     rw[hl8] at hown8 hfr8 ⊢
     have hdd8:∀ b,(Value.slice a8 (L.length+1) c8).ownBlock=some b→b≠w.heap.size+1:=fun b hb=>by
      rcases hfr8 b hb with h|h
      ·exact HD.out b h
      ·first|omega|(simp at h;omega)
     have hX8:=(HX.out.alloc _).andThen hx8 (fun i hi e=>⟨HD.out i e,(HBK.out i e).1⟩)
     have HX8:=Lib.hid hX8
     have HO8:=Lib.hid hown8
     have HD8:=Lib.hid hdd8
     have HBK8:=Lib.hid hown8.blk
     have c08:=hX8.keep (HNEW.out k c HC.out) (fun h=>h.1 rfl)
     clear hown8 hx8 hfr8 hdd8 hX8
     generalize hL8:L++[92]=L8 at *
     have HL8:=Lib.hid hL8
     clear hL8
     go_wp2_with (at_builtin;refine Zt (ea:=u8c) (k:=1) rfl _ _ _ rfl i0 (.int .u8 0) 1 Xo hi hz0 hz1 hz2 rfl (by omega) Yb XN rfl (HO8.out.alloc _) (34:UInt8) w8.heap.size 1 rfl ?_ (by unfold maxLen;omega) (by omega) (by simp;omega) ?_)
     ·exact Wq _ 34
     ·intro v9 w9 hown9 hx9 hfr9
      have hdd:∀ b,v9.ownBlock=some b→b≠w.heap.size+1:=fun b hb=>by
       rcases hfr9 b hb with h|h
       ·exact HD8.out b h
       ·first|omega|(simp at h;omega)
      obtain ⟨a9,c9,rfl,-,-,-⟩:=hown9.slice Yb
      have HE:Hid (34 :: (s.data.toList.take (k+1)).flatMap Zr=L8++[34]):=Jh (by rw[YZ HC.out,←List.cons_append,HL.out,hq,List.append_cons,←HL8.out])
      have HX9:=Jh ((HX8.out.alloc _).andThen hx9 (fun i hi e=>⟨HD8.out i e,(HBK8.out i e).1⟩))
      have HO9:=Lib.hid hown9
      have HD9:=Jh (hdd)
      clear hown9 hx9 hfr9 hdd
      go_wp2_with fail
      go_roundg (s.size - (k+1))
      case measure=>rw[HN.out];omega
      case rel =>
       refine ⟨k+1,a9,c9,rfl,hkl,by go_num,by rw[HE.out],by rw[HE.out];exact HO9,by rw[HE.out];exact HD9,HX9⟩
   ·by_cases h2:cn=92
    ·have hq:Zr c=[92,92]:=by rw[show c=92 from UW (n:=92) (by omega) (HCN.out.trans h2)];rfl
     subst h2
     go_wp2_with (at_builtin;refine Zt (ea:=u8c) (k:=1) rfl _ _ _ rfl i0 (.int .u8 0) 1 Xo hi hz0 hz1 hz2 rfl (by omega) Yb XN rfl (HO.out.alloc _) (92:UInt8) wr.heap.size 1 rfl ?_ (by unfold maxLen;omega) (by omega) (by simp;omega) ?_)
     ·exact Wq _ 92
     ·intro v8 w8 hown8 hx8 hfr8
      obtain ⟨a8,c8,rfl,-,-,-⟩:=hown8.slice Yb
      have hz8:=hx8.size
      simp only[World.size_alloc] at hz8
      have hl8:(L++[92]).length=L.length+1:=by simp
      rw[hl8] at hown8 hfr8 ⊢
      have hdd8:∀ b,(Value.slice a8 (L.length+1) c8).ownBlock=some b→b≠w.heap.size+1:=fun b hb=>by
       rcases hfr8 b hb with h|h
       ·exact HD.out b h
       ·first|omega|(simp at h;omega)
      have hX8:=(HX.out.alloc _).andThen hx8 (fun i hi e=>⟨HD.out i e,(HBK.out i e).1⟩)
      have HX8:=Lib.hid hX8
      have HO8:=Lib.hid hown8
      have HD8:=Lib.hid hdd8
      have HBK8:=Lib.hid hown8.blk
      have c08:=hX8.keep (HNEW.out k c HC.out) (fun h=>h.1 rfl)
      clear hown8 hx8 hfr8 hdd8 hX8
      generalize hL8:L++[92]=L8 at *
      have HL8:=Lib.hid hL8
      clear hL8
      go_wp2_with (at_builtin;refine Zt (ea:=u8c) (k:=1) rfl _ _ _ rfl i0 (.int .u8 0) 1 Xo hi hz0 hz1 hz2 rfl (by omega) Yb XN rfl (HO8.out.alloc _) (92:UInt8) w8.heap.size 1 rfl ?_ (by unfold maxLen;omega) (by omega) (by simp;omega) ?_)
      ·exact Wq _ 92
      ·intro v9 w9 hown9 hx9 hfr9
       have hdd:∀ b,v9.ownBlock=some b→b≠w.heap.size+1:=fun b hb=>by
        rcases hfr9 b hb with h|h
        ·exact HD8.out b h
        ·first|omega|(simp at h;omega)
       obtain ⟨a9,c9,rfl,-,-,-⟩:=hown9.slice Yb
       have HE:Hid (34 :: (s.data.toList.take (k+1)).flatMap Zr=L8++[92]):=Jh (by rw[YZ HC.out,←List.cons_append,HL.out,hq,List.append_cons,←HL8.out])
       have HX9:=Jh ((HX8.out.alloc _).andThen hx9 (fun i hi e=>⟨HD8.out i e,(HBK8.out i e).1⟩))
       have HO9:=Lib.hid hown9
       have HD9:=Jh (hdd)
       clear hown9 hx9 hfr9 hdd
       go_wp2_with fail
       go_roundg (s.size - (k+1))
       case measure=>rw[HN.out];omega
       case rel =>
        refine ⟨k+1,a9,c9,rfl,hkl,by go_num,by rw[HE.out],by rw[HE.out];exact HO9,by rw[HE.out];exact HD9,HX9⟩
    ·have hq:Zr c=[c]:=by unfold Zr;rw[if_neg (by rintro (h|h);exact Qx (n:=34) (by omega) (by rw[HCN.out];exact h1) h;exact Qx (n:=92) (by omega) (by rw[HCN.out];exact h2) h)]
     have h2b:(cn == 92)=false:=by simpa using h2
     have h1b:(cn == 34)=false:=by simpa using h1
     clear h1 h2
     go_wp2_with (at_builtin;refine Zt (ea:=u8c) (k:=1) rfl _ _ _ rfl i0 (.int .u8 0) 1 Xo hi hz0 hz1 hz2 rfl (by omega) Yb XN rfl (HO.out.alloc _) (c:UInt8) wr.heap.size 1 rfl ?_ (by unfold maxLen;omega) (by omega) (by simp;omega) ?_)
     ·rw[←HCN.out];exact Wq _ c
     ·intro v9 w9 hown9 hx9 hfr9
      have hdd:∀ b,v9.ownBlock=some b→b≠w.heap.size+1:=fun b hb=>by
       rcases hfr9 b hb with h|h
       ·exact HD.out b h
       ·first|omega|(simp at h;omega)
      obtain ⟨a9,c9,rfl,-,-,-⟩:=hown9.slice Yb
      have HE:Hid (34 :: (s.data.toList.take (k+1)).flatMap Zr=L++[c]):=Jh (by rw[YZ HC.out,←List.cons_append,HL.out,hq])
      have HX9:=Jh ((HX.out.alloc _).andThen hx9 (fun i hi e=>⟨HD.out i e,(HBK.out i e).1⟩))
      have HO9:=Lib.hid hown9
      have HD9:=Jh (hdd)
      clear hown9 hx9 hfr9 hdd
      go_wp2_with fail
      go_roundg (s.size - (k+1))
      case measure=>rw[HN.out];omega
      case rel =>
       refine ⟨k+1,a9,c9,rfl,hkl,by go_num,by rw[HE.out],by rw[HE.out];exact HO9,by rw[HE.out];exact HD9,HX9⟩
  ·have hkk:¬ ((k:Int)<(s.size:Int)):=by omega
   have hke:k=s.size:=by omega
   have hLe:34 :: (s.data.toList.take k).flatMap Zr=34 :: s.data.toList.flatMap Zr:=by rw[List.take_of_length_le (by omega)]
   have hll:(34 :: (s.data.toList.take k).flatMap Zr).length≤2*s.size+1:=by simp only[List.length_cons];omega
   have HBK:=Lib.hid HO.out.blk
   generalize hL:34 :: (s.data.toList.take k).flatMap Zr=L at *
   have HL:=Lib.hid hLe
   clear hL hLe
   have HCV:Hid (∀ (W:World) (v:Value) (bs:List UInt8),Z6 u8c 1 W v bs→(convert 64 9 v).run Tryz.prog W=.ok (.string ⟨bs.toArray⟩) W):=Jh (fun W v bs h=>VV h)
   go_wp2_with (at_builtin;refine Zt (ea:=u8c) (k:=1) rfl _ _ _ rfl i0 (.int .u8 0) 1 Xo hi hz0 hz1 hz2 rfl (by omega) Yb XN rfl (HO.out.alloc _) (34:UInt8) wr.heap.size 1 rfl ?_ (by unfold maxLen;omega) (by omega) (by simp;omega) ?_)
   ·first|exact Wq _ 34|exact fun j u hj=>hj
   ·intro v9 w9 hown9 hx9 hfr9
    obtain ⟨a9,c9,rfl,-,-,-⟩:=id (hown9.slice Yb)
    have hcb:=HCV.out w9 _ _ (hown9.slice Yb)
    have HE:Hid (L++[34]=Za s.data.toList):=Jh (by rw[HL.out];rfl)
    have HB9:Hid (Below w.heap.size w w9):=Jh (Ext.new HB2.out ((HX.out.alloc _).andThen hx9 (fun i hi e=>⟨HD.out i e,(HBK.out i e).1⟩)) (fun i hi _ h=>absurd h.2 (by omega)) (by omega))
    clear hown9 hx9 hfr9
    generalize (L++[34]).length=ln at hcb ⊢
    rw[HE.out] at hcb
    go_wp2_with fail
    go_ret
    exact ⟨rfl,HB9.out⟩
end Go.Proofs.YtlgipkemoldckaaGreatDoor
namespace Go.Proofs
open Go.Shelf
def Tryz.repF_ren:Go.Shelf.Ren:=⟨fun|105=>50|212=>73|99=>74|165=>75|166=>49|170=>76|169=>29|263=>101|264=>102|206=>103|240=>72|241=>104|276=>100|277=>130|n=>n,fun|9=>9|3=>3|4=>4|20=>20|0=>0|46=>145|109=>146|5=>5|72=>66|76=>115|51=>189|146=>190|53=>192|148=>193|70=>63|37=>64|75=>114|127=>118|164=>187|80=>68|n=>n,fun|n=>n⟩
theorem Tryz.repF:Go.Proofs.Lays.n105 Tryz.prog Tryz.repF_ren:={
 mixed:=by kernel_rfl
 f99:=Tryz.func74.trans (congrArg some (by kernel_rfl))
 f105:=Tryz.func50.trans (congrArg some (by kernel_rfl))
 f165:=Tryz.func75.trans (congrArg some (by kernel_rfl))
 f166:=Tryz.func49.trans (congrArg some (by kernel_rfl))
 f169:=Tryz.func29.trans (congrArg some (by kernel_rfl))
 f170:=Tryz.func76.trans (congrArg some (by kernel_rfl))
 f206:=Tryz.func103.trans (congrArg some (by kernel_rfl))
 f212:=Tryz.func73.trans (congrArg some (by kernel_rfl))
 f240:=Tryz.func72.trans (congrArg some (by kernel_rfl))
 f241:=Tryz.func104.trans (congrArg some (by kernel_rfl))
 f263:=Tryz.func101.trans (congrArg some (by kernel_rfl))
 f264:=Tryz.func102.trans (congrArg some (by kernel_rfl))
 f276:=Tryz.func100.trans (congrArg some (by kernel_rfl))
 f277:=Tryz.func130.trans (congrArg some (by kernel_rfl))
 t0:=Tryz.underlying0
 a0:=Tryz.isAgg0
 z0:=Tryz.sizeOf0
 v0:=Tryz.zeroValue0
 t3:=Tryz.underlying3
 a3:=Tryz.isAgg3
 z3:=Tryz.sizeOf3
 v3:=Tryz.zeroValue3
 t4:=Tryz.underlying4
 a4:=Tryz.isAgg4
 z4:=Tryz.sizeOf4
 v4:=Tryz.zeroValue4
 t5:=Tryz.underlying5
 a5:=Tryz.isAgg5
 z5:=Tryz.sizeOf5
 v5:=Tryz.zeroValue5
 t9:=Tryz.underlying9
 a9:=Tryz.isAgg9
 z9:=Tryz.sizeOf9
 v9:=Tryz.zeroValue9
 t20:=Tryz.underlying20
 a20:=Tryz.isAgg20
 z20:=Tryz.sizeOf20
 v20:=Tryz.zeroValue20
 t37:=Tryz.underlying64
 a37:=Tryz.isAgg64
 z37:=Tryz.sizeOf64
 v37:=Tryz.zeroValue64
 t46:=Tryz.underlying145
 a46:=Tryz.isAgg145
 z46:=Tryz.sizeOf145
 v46:=Tryz.zeroValue145
 t51:=Tryz.underlying189
 a51:=Tryz.isAgg189
 z51:=Tryz.sizeOf189
 v51:=Tryz.zeroValue189
 t53:=Tryz.underlying192
 a53:=Tryz.isAgg192
 z53:=Tryz.sizeOf192
 v53:=Tryz.zeroValue192
 t70:=Tryz.underlying63
 a70:=Tryz.isAgg63
 z70:=Tryz.sizeOf63
 v70:=Tryz.zeroValue63
 t72:=Tryz.underlying66
 a72:=Tryz.isAgg66
 z72:=Tryz.sizeOf66
 v72:=Tryz.zeroValue66
 t75:=Tryz.underlying114
 a75:=Tryz.isAgg114
 z75:=Tryz.sizeOf114
 v75:=Tryz.zeroValue114
 t76:=Tryz.underlying115
 a76:=Tryz.isAgg115
 z76:=Tryz.sizeOf115
 v76:=Tryz.zeroValue115
 t109:=Tryz.underlying146
 a109:=Tryz.isAgg146
 z109:=Tryz.sizeOf146
 v109:=Tryz.zeroValue146
 t127:=Tryz.underlying118
 a127:=Tryz.isAgg118
 z127:=Tryz.sizeOf118
 v127:=Tryz.zeroValue118
 t146:=Tryz.underlying190
 a146:=Tryz.isAgg190
 z146:=Tryz.sizeOf190
 v146:=Tryz.zeroValue190
 t148:=Tryz.underlying193
 a148:=Tryz.isAgg193
 z148:=Tryz.sizeOf193
 v148:=Tryz.zeroValue193
 t164:=Tryz.underlying187
 a164:=Tryz.isAgg187
 z164:=Tryz.sizeOf187
 v164:=Tryz.zeroValue187 }
def Tryz.itoaF_ren:Go.Shelf.Ren:=⟨fun|171=>105|243=>131|246=>144|283=>149|284=>150|285=>151|286=>152|129=>118|317=>154|318=>155|319=>156|320=>157|337=>158|338=>159|n=>n,fun|3=>3|9=>9|2=>2|4=>4|171=>232|0=>0|53=>192|37=>64|5=>5|173=>234|212=>238|51=>189|20=>20|213=>239|46=>145|232=>240|233=>241|n=>n,fun|17=>1|18=>2|19=>3|n=>n⟩
theorem Tryz.itoaF:Go.Proofs.LaysM.n171 Tryz.prog Tryz.itoaF_ren:={
 mixed:=by kernel_rfl
 f129:=Tryz.func118.trans (congrArg some (by kernel_rfl))
 f171:=Tryz.func105.trans (congrArg some (by kernel_rfl))
 f243:=Tryz.func131.trans (congrArg some (by kernel_rfl))
 f246:=Tryz.func144.trans (congrArg some (by kernel_rfl))
 f283:=Tryz.func149.trans (congrArg some (by kernel_rfl))
 f284:=Tryz.func150.trans (congrArg some (by kernel_rfl))
 f285:=Tryz.func151.trans (congrArg some (by kernel_rfl))
 f286:=Tryz.func152.trans (congrArg some (by kernel_rfl))
 f317:=Tryz.func154.trans (congrArg some (by kernel_rfl))
 f318:=Tryz.func155.trans (congrArg some (by kernel_rfl))
 f319:=Tryz.func156.trans (congrArg some (by kernel_rfl))
 f320:=Tryz.func157.trans (congrArg some (by kernel_rfl))
 f337:=Tryz.func158.trans (congrArg some (by kernel_rfl))
 f338:=Tryz.func159.trans (congrArg some (by kernel_rfl))
 t0:=Tryz.underlying0
 a0:=Tryz.isAgg0
 z0:=Tryz.sizeOf0
 v0:=Tryz.zeroValue0
 t2:=Tryz.underlying2
 a2:=Tryz.isAgg2
 z2:=Tryz.sizeOf2
 v2:=Tryz.zeroValue2
 t3:=Tryz.underlying3
 a3:=Tryz.isAgg3
 z3:=Tryz.sizeOf3
 v3:=Tryz.zeroValue3
 t4:=Tryz.underlying4
 a4:=Tryz.isAgg4
 z4:=Tryz.sizeOf4
 v4:=Tryz.zeroValue4
 t5:=Tryz.underlying5
 a5:=Tryz.isAgg5
 z5:=Tryz.sizeOf5
 v5:=Tryz.zeroValue5
 t9:=Tryz.underlying9
 a9:=Tryz.isAgg9
 z9:=Tryz.sizeOf9
 v9:=Tryz.zeroValue9
 t20:=Tryz.underlying20
 a20:=Tryz.isAgg20
 z20:=Tryz.sizeOf20
 v20:=Tryz.zeroValue20
 t37:=Tryz.underlying64
 a37:=Tryz.isAgg64
 z37:=Tryz.sizeOf64
 v37:=Tryz.zeroValue64
 t46:=Tryz.underlying145
 a46:=Tryz.isAgg145
 z46:=Tryz.sizeOf145
 v46:=Tryz.zeroValue145
 t51:=Tryz.underlying189
 a51:=Tryz.isAgg189
 z51:=Tryz.sizeOf189
 v51:=Tryz.zeroValue189
 t53:=Tryz.underlying192
 a53:=Tryz.isAgg192
 z53:=Tryz.sizeOf192
 v53:=Tryz.zeroValue192
 t171:=Tryz.underlying232
 a171:=Tryz.isAgg232
 z171:=Tryz.sizeOf232
 v171:=Tryz.zeroValue232
 t173:=Tryz.underlying234
 a173:=Tryz.isAgg234
 z173:=Tryz.sizeOf234
 v173:=Tryz.zeroValue234
 t212:=Tryz.underlying238
 a212:=Tryz.isAgg238
 z212:=Tryz.sizeOf238
 v212:=Tryz.zeroValue238
 t213:=Tryz.underlying239
 a213:=Tryz.isAgg239
 z213:=Tryz.sizeOf239
 t232:=Tryz.underlying240
 a232:=Tryz.isAgg240
 z232:=Tryz.sizeOf240
 v232:=Tryz.zeroValue240
 t233:=Tryz.underlying241
 a233:=Tryz.isAgg241
 z233:=Tryz.sizeOf241
 v233:=Tryz.zeroValue241
 g17:=by kernel_rfl
 g18:=by kernel_rfl
 g19:=by kernel_rfl
 i0:=by kernel_rfl
 i2:=by kernel_rfl
 i3:=by kernel_rfl
 i4:=by kernel_rfl
 i5:=by kernel_rfl
 i9:=by kernel_rfl
 i20:=by kernel_rfl
 i37:=by kernel_rfl
 i46:=by kernel_rfl
 i51:=by kernel_rfl
 i53:=by kernel_rfl
 i171:=by kernel_rfl
 i173:=by kernel_rfl
 i212:=by kernel_rfl
 i232:=by kernel_rfl
 i233:=by kernel_rfl
 m17:=by kernel_rfl
 m18:=by kernel_rfl
 m19:=by kernel_rfl }
end Go.Proofs
namespace Go.Proofs.YtlgipkemoldckaaGreatDoor
open Go.RowKit Go.Deep
def Yo (w : World) : Prop := Lib.TabIs Tryz.prog w "internal/strconv.uint64pow10" .u64 Lib.pow10Tab
theorem Yo.below {w w':World} (h:Yo w) (hb:Below w.heap.size w w'):Yo w':=Lib.tabBelow_of_tabIs h w' hb
theorem Yo.drew {w:World} (h:Yo w):Yo w.drew:=h
def Tc (B:Nat) (w:World):Prop:=∀ w',Below B w w'→Yo w'
theorem Tc.next {B:Nat} {w w':World} (h:Tc B w) (hb:Below B w w'):Tc B w':=fun w2 h2=>h w2 (hb.trans h2)
theorem UZ (n:Int) (h0:-9223372036854775808≤n) (h1:n≤9223372036854775807) (w:World) (ht:Yo w) :
  Calls Tryz.prog 105 #[.int .i64 n] w fun e w'=>e=.returned (.string ⟨(Lib.itoa n).toArray⟩)∧Below w.heap.size w w':=by
 refine (Any.strconv_Itoa Tryz.itoaF n h0 h1 w ht).mono ?_
 rintro e w' ⟨rfl,k,os,rfl⟩
 exact ⟨rfl,Lib.below_grow _ _ (Nat.le_refl _) k os⟩
theorem Yx (a b:List UInt8):(⟨a.toArray⟩:ByteArray)++⟨b.toArray⟩=⟨(a++b).toArray⟩:=by
 apply ByteArray.ext
 rw[ByteArray.data_append]
 simp
theorem Yn (a:List UInt8):(⟨a.toArray⟩:ByteArray).size=a.length:=by show a.toArray.size=_;simp
theorem VA (sn sr:Int) (w:World) (ht:Yo w) (hg:Ze ⟨sn,sr⟩=true∨(sn=0∧sr=0)) (hd:∀ W,Below w.heap.size w W→Calls Tryz.prog 41 #[.agg #[.int .i64 sn,.int .i64 sr]] W fun e w'=>e=.returned (.bool (Ze ⟨sn,sr⟩))∧Below W.heap.size W w') :
  Calls Tryz.prog 78 #[.agg #[.int .i64 sn,.int .i64 sr]] w fun e w'=>e=.returned (.string ⟨(Lib.itoa sn++46 :: Lib.itoa sr).toArray⟩)∧Below w.heap.size w w':=by
 have hbn:0≤sn∧sn≤1048576∧0≤sr∧sr≤8:=by
  rcases hg with h|⟨rfl,rfl⟩
  ·simp only[Ze,decide_eq_true_eq] at h;omega
  ·omega
 have hl1:=Lib.itoa_length_le sn (by omega) (by omega)
 have hl2:=Lib.itoa_length_le sr (by omega) (by omega)
 have hB0:Below w.heap.size w (w.alloc (.cells #[.int .i64 sn,.int .i64 sr] 23)):=(Below.refl _ _).alloc (Nat.le_refl _) _
 have x0:(w.alloc (.cells #[.int .i64 sn,.int .i64 sr] 23)).cell? ⟨w.heap.size,0,none⟩=some (.int .i64 sn):=by go_simp
 have x1:(w.alloc (.cells #[.int .i64 sn,.int .i64 sr] 23)).cell? ⟨w.heap.size,1,none⟩=some (.int .i64 sr):=by go_simp
 have HT:=Jh (ht.below hB0)
 have HC1:Hid (∀ W:World,Yo W→Calls Tryz.prog 105 #[.int .i64 sn] W fun e w'=>e=.returned (.string ⟨(Lib.itoa sn).toArray⟩)∧Below W.heap.size W w'):=Jh (fun W h=>UZ sn (by omega) (by omega) W h)
 have HC2:Hid (∀ W:World,Yo W→Calls Tryz.prog 105 #[.int .i64 sr] W fun e w'=>e=.returned (.string ⟨(Lib.itoa sr).toArray⟩)∧Below W.heap.size W w'):=Jh (fun W h=>UZ sr (by omega) (by omega) W h)
 generalize Lib.itoa sn=A at *
 generalize Lib.itoa sr=C at *
 have hs1:∀ W,(Op.stringOp .add (⟨A.toArray⟩:ByteArray) ⟨#[46]⟩).run Tryz.prog W=.ok (.string ⟨(A++[46]).toArray⟩) W:=fun W=>by
  rw[run_string_add_sum W _ _ (by rw[Yn];show _+1≤_;omega)]
  rw[show (⟨#[46]⟩:ByteArray)=⟨([46]:List UInt8).toArray⟩ from rfl,Yx]
 have hs2:∀ W,(Op.stringOp .add (⟨(A++[46]).toArray⟩:ByteArray) ⟨C.toArray⟩).run Tryz.prog W=.ok (.string ⟨(A++46 :: C).toArray⟩) W:=fun W=>by
  rw[run_string_add_sum W _ _ (by rw[Yn,Yn,List.length_append,List.length_singleton];omega),Yx,List.append_assoc]
  rfl
 generalize hac:A++[46]=AC at *
 generalize A++46 :: C=AD at *
 have HB0:=Lib.hid hB0
 have HD:=Lib.hid hd
 clear ht hd hB0 hl1 hl2 hac
 have region3:∀ (w1:World) (K:Prop),K→K:=fun _ _ h=>h
 clear region3
 by_cases hz:sn=0∧sr=0
 ·obtain ⟨rfl,rfl⟩:=hz
  go_enter Tryz.func78,Tryz.ntmps78
  go_upto_region 1 with fail
  generalize w.alloc (.cells #[.int .i64 0,.int .i64 0] 23)=w1 at *
  clear hbn hg HD
  go_upto_region 3 with fail
  go_region_held3 (fun W=>W.cell? ⟨w.heap.size,0,none⟩=some (.int .i64 0)∧W.cell? ⟨w.heap.size,1,none⟩=some (.int .i64 0)∧Yo W) (first|exact ⟨x0,x1,HT.out⟩|exact ⟨Z0 b5 x0,Z0 b5 x1,HT.out.below b5⟩|exact ⟨Z0 b6 (Z0 b5 x0),Z0 b6 (Z0 b5 x1),(HT.out.below b5).below b6⟩) (first|(go_at_call 105;((with_reducible refine (HC1.out _ HT.out.drew).mono ?_);rintro e w5 ⟨rfl,b5⟩;simp only[ZI,ZA] at b5))|(go_at_call 105;((with_reducible refine (HC2.out _ (HT.out.below b5)).mono ?_);rintro e w6 ⟨rfl,b6⟩;try simp only[ZI,ZA] at b6)))
  go_wp2_with fail
  go_ret
  exact ⟨rfl,(HB0.out.trans (b5.mono HB0.out.size)).trans (b6.mono (by have:=HB0.out.size;have:=b5.size;omega))⟩
 ·have hr:Ze ⟨sn,sr⟩=true:=hg.resolve_right hz
  rw[hr] at HD
  go_enter Tryz.func78,Tryz.ntmps78
  go_upto_region 1 with fail
  generalize w.alloc (.cells #[.int .i64 sn,.int .i64 sr] 23)=w1 at *
  have hn:¬ sn=0:=fun e=>by
   rw[e] at hr
   simp[Ze] at hr
  clear hbn hg hz hr
  go_wp2_with fail
  refine (HD.out w1 HB0.out).mono ?_
  rintro e w2 ⟨rfl,b2⟩
  replace x0:=Z0 b2 x0
  replace x1:=Z0 b2 x1
  have HT2:=Jh (HT.out.below b2)
  have HB2:=Jh (HB0.out.trans (b2.mono HB0.out.size))
  clear b2 HB0 HT HD
  go_upto_region 3 with fail
  go_region_held3 (fun W=>W.cell? ⟨w.heap.size,0,none⟩=some (.int .i64 sn)∧W.cell? ⟨w.heap.size,1,none⟩=some (.int .i64 sr)∧Yo W) (first|exact ⟨x0,x1,HT2.out⟩|exact ⟨Z0 b5 x0,Z0 b5 x1,HT2.out.below b5⟩|exact ⟨Z0 b6 (Z0 b5 x0),Z0 b6 (Z0 b5 x1),(HT2.out.below b5).below b6⟩) (first|(go_at_call 105;((with_reducible refine (HC1.out _ HT2.out.drew).mono ?_);rintro e w5 ⟨rfl,b5⟩;simp only[ZI,ZA] at b5))|(go_at_call 105;((with_reducible refine (HC2.out _ (HT2.out.below b5)).mono ?_);rintro e w6 ⟨rfl,b6⟩;try simp only[ZI,ZA] at b6)))
  go_wp2_with fail
  go_ret
  exact ⟨rfl,(HB2.out.trans (b5.mono HB2.out.size)).trans (b6.mono (by have:=HB2.out.size;have:=b5.size;omega))⟩
theorem RX (sn sr:Int) (w:World) (hr:Ze ⟨sn,sr⟩=false) (hz:¬ (sn=0∧sr=0)) (hd:∀ W,Below w.heap.size w W→Calls Tryz.prog 41 #[.agg #[.int .i64 sn,.int .i64 sr]] W fun e w'=>e=.returned (.bool (Ze ⟨sn,sr⟩))∧Below W.heap.size W w') :
  Calls Tryz.prog 78 #[.agg #[.int .i64 sn,.int .i64 sr]] w fun e w'=>e=.returned (.string ⟨#[]⟩)∧Below w.heap.size w w':=by
 have hB0:Below w.heap.size w (w.alloc (.cells #[.int .i64 sn,.int .i64 sr] 23)):=(Below.refl _ _).alloc (Nat.le_refl _) _
 have x0:(w.alloc (.cells #[.int .i64 sn,.int .i64 sr] 23)).cell? ⟨w.heap.size,0,none⟩=some (.int .i64 sn):=by go_simp
 have x1:(w.alloc (.cells #[.int .i64 sn,.int .i64 sr] 23)).cell? ⟨w.heap.size,1,none⟩=some (.int .i64 sr):=by go_simp
 have HD:=Lib.hid hd
 have HB0:=Lib.hid hB0
 rw[hr] at HD
 clear hd hB0 hr
 by_cases h1:sn=0
 ·subst h1
  have h2:¬ sr=0:=fun e=>hz ⟨rfl,e⟩
  go_enter Tryz.func78,Tryz.ntmps78
  go_upto_region 1 with fail
  generalize w.alloc (.cells #[.int .i64 0,.int .i64 sr] 23)=w1 at *
  go_wp2_with fail
  refine (HD.out w1 HB0.out).mono ?_
  rintro e w2 ⟨rfl,b2⟩
  go_wp2_with fail
  go_ret
  exact ⟨rfl,HB0.out.trans (b2.mono HB0.out.size)⟩
 ·go_enter Tryz.func78,Tryz.ntmps78
  go_upto_region 1 with fail
  generalize w.alloc (.cells #[.int .i64 sn,.int .i64 sr] 23)=w1 at *
  go_wp2_with fail
  refine (HD.out w1 HB0.out).mono ?_
  rintro e w2 ⟨rfl,b2⟩
  go_wp2_with fail
  go_ret
  exact ⟨rfl,HB0.out.trans (b2.mono HB0.out.size)⟩
theorem RD (sn sr:Int) (w:World) (ht:Yo w) :
  Calls Tryz.prog 78 #[.agg #[.int .i64 sn,.int .i64 sr]] w fun e w'=>e=.returned (.string ⟨(stL ⟨sn,sr⟩).toArray⟩)∧Below w.heap.size w w':=by
 have hd:∀ W,Below w.heap.size w W→Calls Tryz.prog 41 #[.agg #[.int .i64 sn,.int .i64 sr]] W fun e w'=>e=.returned (.bool (Ze ⟨sn,sr⟩))∧Below W.heap.size W w':=fun W _=>Rq sn sr W
 by_cases hz:sn=0∧sr=0
 ·have e:stL ⟨sn,sr⟩=Lib.itoa sn++46 :: Lib.itoa sr:=by unfold stL;rw[if_neg (by rintro ⟨h,_⟩;exact h (by rw[hz.1,hz.2]))]
  rw[e]
  exact VA sn sr w ht (.inr hz) hd
 ·have hne:(⟨sn,sr⟩:St)≠⟨0,0⟩:=fun e=>hz ⟨congrArg St.n e,congrArg St.r e⟩
  cases hr:Ze ⟨sn,sr⟩ with
  | true =>
   have e:stL ⟨sn,sr⟩=Lib.itoa sn++46 :: Lib.itoa sr:=by unfold stL;rw[if_neg (by rintro ⟨_,h⟩;rw[hr] at h;cases h)]
   rw[e]
   exact VA sn sr w ht (.inl hr) hd
  | false =>
   have e:stL ⟨sn,sr⟩=[]:=by unfold stL;rw[if_pos ⟨hne,hr⟩]
   rw[e]
   exact RX sn sr w hr hz hd
theorem Ws (W:World) (c:UInt8) (g:Nat) (h:W.cell? ⟨g,0,none⟩=some (.int .u8 c.toNat)):(convert 64 9 (.slice (some ⟨g,0,none⟩) 1 1)).run Tryz.prog W=.ok (.string ⟨([c]:List UInt8).toArray⟩) W:=by
 refine VV (bs:=[c]) ⟨some ⟨g,0,none⟩,1,rfl,by simp,by unfold maxLen;simp,fun _=>⟨g,0,rfl,fun k x hx j v hj=>?_⟩⟩
 cases k with
 | succ k=>simp at hx
 | zero =>
  simp at hx
  subst hx
  cases j with
  | succ j=>simp[u8c] at hj
  | zero =>
   simp[u8c] at hj
   subst hj
   simpa using h
theorem QF {s:ByteArray} {k:Nat} {c:UInt8} (h:s.data.toList[k]?=some c):s.extract k (k+1)=⟨([c]:List UInt8).toArray⟩:=by
 apply ByteArray.ext
 rw[ByteArray.data_extract]
 apply Array.ext'
 rw[Array.toList_extract]
 have:=(List.getElem?_eq_some_iff.1 h)
 obtain ⟨h1,h2⟩:=this
 simp only[List.extract,Nat.add_sub_cancel_left]
 rw[List.take_one,List.head?_drop,h]
 rfl
theorem Wm (s:ByteArray) (w:World) (hs:s.size≤35184372088832) :
  Calls Tryz.prog 81 #[.string s] w fun e w'=>e=.returned (.string ⟨(Za s.data.toList).toArray⟩)∧Below w.heap.size w w':=by
 have hsz:s.data.toList.length=s.size:=by rw[Array.length_toList];rfl
 go_enter Tryz.func81,Tryz.ntmps81
 go_wp2_with fail
 go_loopg [3,4] s.size (fun n v iv wr=>∃ (k:Nat),n=s.size - k∧k≤s.size∧iv=.int .i64 k∧v=.string ⟨((s.data.toList.take k).flatMap Zr).toArray⟩∧Hid (Below w.heap.size w wr))
 case atStart=>exact ⟨0,rfl,by omega,rfl,rfl,Jh (Below.refl _ _)⟩
 case round =>
  obtain ⟨k,hn,hkl,rfl,rfl,HB⟩:=hrel
  have HN:=Lib.hid hn
  have hql:=WN s.data.toList k
  clear hn
  by_cases hk:k<s.size
  ·obtain ⟨c,hc⟩:∃ c,s.data.toList[k]?=some c:=⟨_,List.getElem?_eq_getElem (by omega)⟩
   have hkk:(k:Int)<(s.size:Int):=by omega
   have hex:=QF hc
   have HC:=Jh (YZ hc)
   have hsk:s[k]=c:=by
    have:=(List.getElem?_eq_some_iff.1 hc).2
    rw[Array.getElem_toList] at this
    exact this
   have hadd:∀ (a b:List UInt8) (W:World),a.length+b.length≤9223372036854775807→(Op.stringOp .add (⟨a.toArray⟩:ByteArray) ⟨b.toArray⟩).run Tryz.prog W=.ok (.string ⟨(a++b).toArray⟩) W:=fun a b W h=>by
    rw[run_string_add_sum W _ _ (by rw[Yn,Yn];exact h),Yx]
   have HADD:=Lib.hid hadd
   generalize hL:(s.data.toList.take k).flatMap Zr=L at *
   clear hL hadd hc
   by_cases h1:c=34∨c=92
   ·have hq:Zr c=[92,c]:=by unfold Zr;rw[if_pos h1]
    rw[hq,List.append_cons] at HC
    have hcv:(convert 64 9 (.slice (some ⟨wr.heap.size,0,none⟩) 1 1)).run Tryz.prog (wr.alloc (.cells #[.int .u8 92] 5))=.ok (.string ⟨([92]:List UInt8).toArray⟩) (wr.alloc (.cells #[.int .u8 92] 5)):=Ws _ 92 _ (by go_simp)
    have hs1:=HADD.out L [92] (wr.alloc (.cells #[.int .u8 92] 5)) (by simp;omega)
    have hs2:=HADD.out (L++[92]) [c] (wr.alloc (.cells #[.int .u8 92] 5)) (by simp;omega)
    generalize L++[92]++[c]=L2 at *
    generalize L++[92]=L1 at *
    have HB2:=Jh (HB.out.alloc HB.out.size (.cells #[.int .u8 92] 5))
    clear hq
    rcases h1 with rfl|rfl
    ·have hst:(s[k]).toNat=34:=by rw[hsk];rfl
     clear hsk
     go_wp2_with fail
     go_roundg (s.size - (k+1))
     case measure=>rw[HN.out];omega
     case rel=>exact ⟨k+1,rfl,by omega,by go_num,by rw[HC.out],HB2⟩
    ·have hst:(s[k]).toNat=92:=by rw[hsk];rfl
     clear hsk
     go_wp2_with fail
     go_roundg (s.size - (k+1))
     case measure=>rw[HN.out];omega
     case rel=>exact ⟨k+1,rfl,by omega,by go_num,by rw[HC.out],HB2⟩
   ·have hq:Zr c=[c]:=by unfold Zr;rw[if_neg h1]
    rw[hq] at HC
    obtain ⟨cn,hcn⟩:∃ cn:Int,(c.toNat:Int)=cn:=⟨_,rfl⟩
    have h1b:(cn == 34)=false:=by
     rw[beq_eq_false_iff_ne,←hcn];exact fun h=>h1 (.inl (UW (n:=34) (by omega) h))
    have h2b:(cn == 92)=false:=by
     rw[beq_eq_false_iff_ne,←hcn];exact fun h=>h1 (.inr (UW (n:=92) (by omega) h))
    have hst:((s[k]).toNat:Int)=cn:=by rw[hsk];exact hcn
    have hs1:=HADD.out L [c] wr (by simp;omega)
    generalize L++[c]=L2 at *
    clear hsk hcn hq h1
    go_wp2_with fail
    go_roundg (s.size - (k+1))
    case measure=>rw[HN.out];omega
    case rel=>exact ⟨k+1,rfl,by omega,by go_num,by rw[HC.out],HB⟩
  ·have hkk:¬ ((k:Int)<(s.size:Int)):=by omega
   have hke:(s.data.toList.take k)=s.data.toList:=List.take_of_length_le (by omega)
   rw[hke] at hql ⊢
   have hone:∀ W:World,(W.alloc (.cells #[.int .u8 34] 5)).cell? ⟨W.heap.size,0,none⟩=some (.int .u8 34):=fun W=>by go_simp
   have HONE:=Lib.hid hone
   clear hone
   have hadd:∀ (a b:List UInt8) (W:World),a.length+b.length≤9223372036854775807→(Op.stringOp .add (⟨a.toArray⟩:ByteArray) ⟨b.toArray⟩).run Tryz.prog W=.ok (.string ⟨(a++b).toArray⟩) W:=fun a b W h=>by
    rw[run_string_add_sum W _ _ (by rw[Yn,Yn];exact h),Yx]
   have HE:Hid ([34]++s.data.toList.flatMap Zr++[34]=Za s.data.toList):=Jh (by unfold Za;simp)
   generalize s.data.toList.flatMap Zr=L at *
   obtain ⟨w1,hw1⟩:=Je (wr.alloc (.cells #[.int .u8 34] 5))
   obtain ⟨w2,hw2⟩:=Je (w1.alloc (.cells #[.int .u8 34] 5))
   have hb1:Below w.heap.size w w1:=by rw[←hw1];exact HB.out.alloc HB.out.size _
   have hb2:Below w.heap.size w w2:=by rw[←hw2];exact hb1.alloc hb1.size _
   have HB2:=Lib.hid hb2
   have hcv1:(convert 64 9 (.slice (some ⟨wr.heap.size,0,none⟩) 1 1)).run Tryz.prog w1=.ok (.string ⟨([34]:List UInt8).toArray⟩) w1:=Ws _ 34 _ (by rw[←hw1];exact HONE.out _)
   have hcv2:(convert 64 9 (.slice (some ⟨w1.heap.size,0,none⟩) 1 1)).run Tryz.prog w2=.ok (.string ⟨([34]:List UInt8).toArray⟩) w2:=Ws _ 34 _ (by rw[←hw2];exact HONE.out _)
   have hs1:=hadd [34] L w1 (by simp;omega)
   have hs2:=hadd ([34]++L) [34] w2 (by simp;omega)
   rw[HE.out] at hs2
   obtain ⟨L2,hL2⟩:=Je (Za s.data.toList)
   rw[hL2] at hs2
   have HL2:=Lib.hid hL2
   clear hL2
   have HQ:Hid (∃ L1,L1=[34]++L):=Lib.hid ⟨_,rfl⟩
   generalize [34]++L=L1 at *
   clear hadd hb1 hb2 hke HE HQ
   go_wp2_with fail
   go_ret
   exact ⟨by rw[HL2.out];rfl,HB2.out⟩
def WQ (N u:Nat) (l:List UInt8):Prop:=(l=[]∧u=N)∨(l≠[]∧Lib.decDigits N=(if u=0 then [] else Lib.decDigits u)++l)
theorem WQ.step {N u:Nat} {l:List UInt8} (h:WQ N u l) (hn:0<u∨l=[]):WQ N (u / 10) (UInt8.ofNat (48+u % 10) :: l):=by
 have key:Lib.decDigits u=(if u / 10=0 then [] else Lib.decDigits (u / 10))++[UInt8.ofNat (48+u % 10)]:=by
  conv=>lhs;rw[Lib.decDigits]
  by_cases h10:u<10
  ·rw[dif_pos h10,if_pos (by omega),show u % 10=u by omega];rfl
  ·rw[dif_neg h10,if_neg (by omega)]
 refine .inr ⟨by simp,?_⟩
 rcases h with ⟨rfl,rfl⟩|⟨hl,h⟩
 ·exact key
 ·have hu:0<u:=hn.resolve_right hl
  rw[h,if_neg (by omega),key,List.append_assoc]
  rfl
theorem WQ.done {N u:Nat} {l:List UInt8} (h:WQ N u l) (h0:u=0) (hl:l≠[]):l=Lib.decDigits N:=by
 rcases h with ⟨rfl,_⟩|⟨_,h⟩
 ·exact absurd rfl hl
 ·rw[h,if_pos h0];rfl
theorem WQ.len {N u:Nat} {l:List UInt8} (h:WQ N u l):l.length≤(Lib.decDigits N).length:=by
 rcases h with ⟨rfl,_⟩|⟨_,h⟩
 ·simp
 ·rw[h,List.length_append];omega
theorem Uq (k:Nat) (hk:k<10):(⟨#[48,49,50,51,52,53,54,55,56,57]⟩:ByteArray).extract k (k+1)=⟨([UInt8.ofNat (48+k)]:List UInt8).toArray⟩:=by
 rcases (by omega:k=0∨k=1∨k=2∨k=3∨k=4∨k=5∨k=6∨k=7∨k=8∨k=9) with rfl|rfl|rfl|rfl|rfl|rfl|rfl|rfl|rfl|rfl <;> decide
theorem SW (N:Nat) (hN:N≤1048576) (w:World) :
  Calls Tryz.prog 106 #[.int .i64 N] w fun e w'=>e=.returned (.string ⟨(Lib.itoa N).toArray⟩)∧w'=w:=by
 have hlen:=Lib.itoa_length_le N (by omega) (by omega)
 have hit:Lib.itoa (N:Int)=Lib.decDigits N:=by unfold Lib.itoa;rw[if_neg (by omega)];simp
 rw[hit] at hlen ⊢
 go_enter Tryz.func106,Tryz.ntmps106
 go_wp2_with fail
 go_loopg [0,3] (N+1) (fun n nv sv wr=>∃ (u:Nat) (l:List UInt8),n=u+(if l=[] then 1 else 0)∧u≤1048576∧nv=.int .i64 u∧sv=.string ⟨l.toArray⟩∧wr=w∧WQ N u l)
 case atStart=>exact ⟨N,[],rfl,hN,rfl,rfl,rfl,.inl ⟨rfl,rfl⟩⟩
 case round =>
  obtain ⟨u,l,hn,hu,rfl,rfl,rfl,hS⟩:=hrel
  have hll:=hS.len
  have HN:=Lib.hid hn
  clear hn
  by_cases h0:u=0
  ·subst h0
   cases l with
   | nil =>
    go_wp2_with fail
    go_roundg 0
    case measure=>rw[HN.out];simp
    case rel =>
     refine ⟨0,[48],by simp,by omega,rfl,?_,rfl,hS.step (.inr rfl)⟩
     rw[show (⟨#[48,49,50,51,52,53,54,55,56,57]⟩:ByteArray).extract 0 1=⟨([48]:List UInt8).toArray⟩ from Uq 0 (by omega),show (⟨#[]⟩:ByteArray)=⟨([]:List UInt8).toArray⟩ from rfl,Yx]
     rfl
   | cons c l =>
    have hd:=hS.done rfl (by simp)
    have hne:((c :: l) == ([]:List UInt8))=false:=rfl
    have HD:=Lib.hid hd
    clear hd hS
    go_wp2_with fail
    go_ret
    exact ⟨by rw[←HD.out];rfl,rfl⟩
  ·have hk:(0:Int)<(u:Int):=by omega
   have hk2:(u:Int) > 0:=hk
   have hS2:=hS.step (.inl (by omega))
   go_wp2_with fail
   go_roundg (u / 10)
   case measure=>rw[HN.out];split <;> omega
   case rel =>
    refine ⟨u / 10,_,by simp,by omega,by go_num,?_,rfl,hS2⟩
    rw[Uq _ (Nat.mod_lt _ (by omega)),Yx]
    rfl
def NoT (w:World):Prop:=True
theorem NoT.below {w w':World} (h:NoT w) (hb:Below w.heap.size w w'):NoT w':=trivial
theorem NoT.drew {w:World} (h:NoT w):NoT w.drew:=trivial
theorem TC (n:Int) (h0:0≤n) (h1:n≤1048576) (w:World) (ht:NoT w) :
  Calls Tryz.prog 106 #[.int .i64 n] w fun e w'=>e=.returned (.string ⟨(Lib.itoa n).toArray⟩)∧Below w.heap.size w w':=by
 obtain ⟨N,rfl⟩:∃ N:Nat,n=N:=⟨n.toNat,by omega⟩
 refine (SW N (by omega) w).mono ?_
 rintro e w' ⟨rfl,rfl⟩
 exact ⟨rfl,Below.refl _ _⟩
theorem VW (sn sr:Int) (w:World) (ht:NoT w) (hg:Ze ⟨sn,sr⟩=true∨(sn=0∧sr=0)) (hd:∀ W,Below w.heap.size w W→Calls Tryz.prog 32 #[.agg #[.int .i64 sn,.int .i64 sr]] W fun e w'=>e=.returned (.bool (Ze ⟨sn,sr⟩))∧Below W.heap.size W w') :
  Calls Tryz.prog 80 #[.agg #[.int .i64 sn,.int .i64 sr]] w fun e w'=>e=.returned (.string ⟨(Lib.itoa sn++46 :: Lib.itoa sr).toArray⟩)∧Below w.heap.size w w':=by
 have hbn:0≤sn∧sn≤1048576∧0≤sr∧sr≤8:=by
  rcases hg with h|⟨rfl,rfl⟩
  ·simp only[Ze,decide_eq_true_eq] at h;omega
  ·omega
 have hl1:=Lib.itoa_length_le sn (by omega) (by omega)
 have hl2:=Lib.itoa_length_le sr (by omega) (by omega)
 have hB0:Below w.heap.size w (w.alloc (.cells #[.int .i64 sn,.int .i64 sr] 23)):=(Below.refl _ _).alloc (Nat.le_refl _) _
 have x0:(w.alloc (.cells #[.int .i64 sn,.int .i64 sr] 23)).cell? ⟨w.heap.size,0,none⟩=some (.int .i64 sn):=by go_simp
 have x1:(w.alloc (.cells #[.int .i64 sn,.int .i64 sr] 23)).cell? ⟨w.heap.size,1,none⟩=some (.int .i64 sr):=by go_simp
 have HT:=Jh (ht.below hB0)
 have HC1:Hid (∀ W:World,NoT W→Calls Tryz.prog 106 #[.int .i64 sn] W fun e w'=>e=.returned (.string ⟨(Lib.itoa sn).toArray⟩)∧Below W.heap.size W w'):=Jh (fun W h=>TC sn (by omega) (by omega) W h)
 have HC2:Hid (∀ W:World,NoT W→Calls Tryz.prog 106 #[.int .i64 sr] W fun e w'=>e=.returned (.string ⟨(Lib.itoa sr).toArray⟩)∧Below W.heap.size W w'):=Jh (fun W h=>TC sr (by omega) (by omega) W h)
 generalize Lib.itoa sn=A at *
 generalize Lib.itoa sr=C at *
 have hs1:∀ W,(Op.stringOp .add (⟨A.toArray⟩:ByteArray) ⟨#[46]⟩).run Tryz.prog W=.ok (.string ⟨(A++[46]).toArray⟩) W:=fun W=>by
  rw[run_string_add_sum W _ _ (by rw[Yn];show _+1≤_;omega)]
  rw[show (⟨#[46]⟩:ByteArray)=⟨([46]:List UInt8).toArray⟩ from rfl,Yx]
 have hs2:∀ W,(Op.stringOp .add (⟨(A++[46]).toArray⟩:ByteArray) ⟨C.toArray⟩).run Tryz.prog W=.ok (.string ⟨(A++46 :: C).toArray⟩) W:=fun W=>by
  rw[run_string_add_sum W _ _ (by rw[Yn,Yn,List.length_append,List.length_singleton];omega),Yx,List.append_assoc]
  rfl
 generalize hac:A++[46]=AC at *
 generalize A++46 :: C=AD at *
 have HB0:=Lib.hid hB0
 have HD:=Lib.hid hd
 clear ht hd hB0 hl1 hl2 hac
 have region3:∀ (w1:World) (K:Prop),K→K:=fun _ _ h=>h
 clear region3
 go_enter Tryz.func80,Tryz.ntmps80
 go_upto_region 1 with fail
 generalize w.alloc (.cells #[.int .i64 sn,.int .i64 sr] 23)=w1 at *
 clear hbn
 go_wp2_with fail
 refine (HD.out w1 HB0.out).mono ?_
 rintro e w2 ⟨rfl,b2⟩
 replace x0:=Z0 b2 x0
 replace x1:=Z0 b2 x1
 have HT2:=Jh (HT.out.below b2)
 have HB2:=Jh (HB0.out.trans (b2.mono HB0.out.size))
 clear b2 HB0 HT HD
 cases hr:Ze ⟨sn,sr⟩ with
 | true =>
  clear hg hr
  go_upto_region 4 with fail
  go_region_held3 (fun W=>W.cell? ⟨w.heap.size,0,none⟩=some (.int .i64 sn)∧W.cell? ⟨w.heap.size,1,none⟩=some (.int .i64 sr)∧NoT W) (first|exact ⟨x0,x1,HT2.out⟩|exact ⟨Z0 b5 x0,Z0 b5 x1,HT2.out.below b5⟩|exact ⟨Z0 b6 (Z0 b5 x0),Z0 b6 (Z0 b5 x1),(HT2.out.below b5).below b6⟩) (first|(go_at_call 106;((with_reducible refine (HC1.out _ HT2.out.drew).mono ?_);rintro e w5 ⟨rfl,b5⟩;simp only[ZI,ZA] at b5))|(go_at_call 106;((with_reducible refine (HC2.out _ (HT2.out.below b5)).mono ?_);rintro e w6 ⟨rfl,b6⟩;try simp only[ZI,ZA] at b6)))
  go_wp2_with fail
  go_ret
  exact ⟨rfl,(HB2.out.trans (b5.mono HB2.out.size)).trans (b6.mono (by have:=HB2.out.size;have:=b5.size;omega))⟩
 | false =>
  obtain ⟨rfl,rfl⟩:=hg.resolve_left (by rw[hr];simp)
  clear hr
  go_upto_region 4 with fail
  go_region_held3 (fun W=>W.cell? ⟨w.heap.size,0,none⟩=some (.int .i64 0)∧W.cell? ⟨w.heap.size,1,none⟩=some (.int .i64 0)∧NoT W) (first|exact ⟨x0,x1,HT2.out⟩|exact ⟨Z0 b5 x0,Z0 b5 x1,HT2.out.below b5⟩|exact ⟨Z0 b6 (Z0 b5 x0),Z0 b6 (Z0 b5 x1),(HT2.out.below b5).below b6⟩) (first|(go_at_call 106;((with_reducible refine (HC1.out _ HT2.out.drew).mono ?_);rintro e w5 ⟨rfl,b5⟩;simp only[ZI,ZA] at b5))|(go_at_call 106;((with_reducible refine (HC2.out _ (HT2.out.below b5)).mono ?_);rintro e w6 ⟨rfl,b6⟩;try simp only[ZI,ZA] at b6)))
  go_wp2_with fail
  go_ret
  exact ⟨rfl,(HB2.out.trans (b5.mono HB2.out.size)).trans (b6.mono (by have:=HB2.out.size;have:=b5.size;omega))⟩
theorem Rk (sn sr:Int) (w:World) (hr:Ze ⟨sn,sr⟩=false) (hz:¬ (sn=0∧sr=0)) (hd:∀ W,Below w.heap.size w W→Calls Tryz.prog 32 #[.agg #[.int .i64 sn,.int .i64 sr]] W fun e w'=>e=.returned (.bool (Ze ⟨sn,sr⟩))∧Below W.heap.size W w') :
  Calls Tryz.prog 80 #[.agg #[.int .i64 sn,.int .i64 sr]] w fun e w'=>e=.returned (.string ⟨#[]⟩)∧Below w.heap.size w w':=by
 have hB0:Below w.heap.size w (w.alloc (.cells #[.int .i64 sn,.int .i64 sr] 23)):=(Below.refl _ _).alloc (Nat.le_refl _) _
 have x0:(w.alloc (.cells #[.int .i64 sn,.int .i64 sr] 23)).cell? ⟨w.heap.size,0,none⟩=some (.int .i64 sn):=by go_simp
 have x1:(w.alloc (.cells #[.int .i64 sn,.int .i64 sr] 23)).cell? ⟨w.heap.size,1,none⟩=some (.int .i64 sr):=by go_simp
 have HD:=Lib.hid hd
 have HB0:=Lib.hid hB0
 rw[hr] at HD
 clear hd hB0 hr
 by_cases h1:sn=0
 ·subst h1
  have h2:¬ sr=0:=fun e=>hz ⟨rfl,e⟩
  go_enter Tryz.func80,Tryz.ntmps80
  go_upto_region 1 with fail
  generalize w.alloc (.cells #[.int .i64 0,.int .i64 sr] 23)=w1 at *
  go_wp2_with fail
  refine (HD.out w1 HB0.out).mono ?_
  rintro e w2 ⟨rfl,b2⟩
  replace x0:=Z0 b2 x0
  replace x1:=Z0 b2 x1
  go_wp2_with fail
  go_ret
  exact ⟨rfl,HB0.out.trans (b2.mono HB0.out.size)⟩
 ·go_enter Tryz.func80,Tryz.ntmps80
  go_upto_region 1 with fail
  generalize w.alloc (.cells #[.int .i64 sn,.int .i64 sr] 23)=w1 at *
  go_wp2_with fail
  refine (HD.out w1 HB0.out).mono ?_
  rintro e w2 ⟨rfl,b2⟩
  replace x0:=Z0 b2 x0
  replace x1:=Z0 b2 x1
  go_wp2_with fail
  go_ret
  exact ⟨rfl,HB0.out.trans (b2.mono HB0.out.size)⟩
theorem Rg (sn sr:Int) (w:World) :
  Calls Tryz.prog 80 #[.agg #[.int .i64 sn,.int .i64 sr]] w fun e w'=>e=.returned (.string ⟨(stL ⟨sn,sr⟩).toArray⟩)∧Below w.heap.size w w':=by
 have hd:∀ W,Below w.heap.size w W→Calls Tryz.prog 32 #[.agg #[.int .i64 sn,.int .i64 sr]] W fun e w'=>e=.returned (.bool (Ze ⟨sn,sr⟩))∧Below W.heap.size W w':=fun W _=>VO sn sr W
 by_cases hz:sn=0∧sr=0
 ·have e:stL ⟨sn,sr⟩=Lib.itoa sn++46 :: Lib.itoa sr:=by unfold stL;rw[if_neg (by rintro ⟨h,_⟩;exact h (by rw[hz.1,hz.2]))]
  rw[e]
  exact VW sn sr w trivial (.inr hz) hd
 ·have hne:(⟨sn,sr⟩:St)≠⟨0,0⟩:=fun e=>hz ⟨congrArg St.n e,congrArg St.r e⟩
  cases hr:Ze ⟨sn,sr⟩ with
  | true =>
   have e:stL ⟨sn,sr⟩=Lib.itoa sn++46 :: Lib.itoa sr:=by unfold stL;rw[if_neg (by rintro ⟨_,h⟩;rw[hr] at h;cases h)]
   rw[e]
   exact VW sn sr w trivial (.inl hr) hd
  | false =>
   have e:stL ⟨sn,sr⟩=[]:=by unfold stL;rw[if_pos ⟨hne,hr⟩]
   rw[e]
   exact Rk sn sr w hr hz hd
end Go.Proofs.YtlgipkemoldckaaGreatDoor
namespace Go.Proofs.YtlgipkemoldckaaGreatDoor
open Go.RowKit
def Se (R:Nat→Prop) (J:World→Prop) (W:World):Exit→Act→World→Prop
 | .normal,_,W'=>J W'∧Ext R W W'
 | .ret,_,_=>False
 | .exit _,_,_=>False
 | .goto _,_,_=>False
 | .panic _,_,_=>False
 | .outgrown,_,_=>False
theorem ZQ (w:World) (l:Nat) (o:Obj):Ext (·=l) w (w.putObj l o) :=
 ⟨rfl,rfl,rfl,by simp[World.putObj],fun k hk hn=>World.putObj_heap_other (by omega)⟩
def WV {U:Type} (P:Program) (n gf:Nat) (lb:Array Value) (encs:U→Array Value) (R:Nat→Prop) (xs:List U) (w:World):Prop :=
 ∀ (l:Nat) (I:List U→World→Prop) (W:World),w.heap.size<l→Below w.heap.size w W→(∀ pre W W',I pre W→Ext (fun _=>False) W W'→I pre W') →
  (∀ pre x W1,I pre W1→pre++[x] <+: xs→YieldAt Fence.wide (n - 1) P l (encs x) W1 fun e W'=>e=.returned (.bool true)∧I (pre++[x]) W'∧Ext (fun k=>k=l∨R k) W1 W')→I [] W →
  CallsIn Fence.wide n P gf (#[.func (.yield l) #[] #[]]++lb) W fun e W'=>(∃ v,e=.returned v)∧I xs W'
theorem UH {U:Type} {P:Program} {n:Nat} (h1:1≤n) {g:Operand} {ps:Array Tmp} {assign body:Code} {Q:Exit→Act→World→Prop} {a:Act} {w:World} {gf:Nat} {lb:Array Value}
  (hg:a.eval g=.func (.func gf) #[] lb) (eg:∀ args w,(callFunc gf args).run P w=.ok (.enter gf args) w)
  (encs:U→Array Value) (hps:∀ x,(encs x).size=ps.size) (R:Nat→Prop) (hR:∀ k,R k→k≠w.heap.size∧k≠w.heap.size+1) (xs:List U)
  (J:List U→World→Prop) (hJ:∀ pre W W',J pre W→Ext (fun k=>k=w.heap.size∨k=w.heap.size+1) W W'→J pre W')
  (hseq:WV P (n - 1) gf lb encs R xs w)
  (h00:J [] w)
  (hround:∀ (l:Nat) (pre:List U) (x:U) (W:World),J pre W→pre++[x] <+: xs→w.heap.size+1<W.heap.size →
   assign.wpIn (Fence.wide.inRound l) (n - 1 - 1) P (Exit.then (fun a₁ W₁=>Ext (fun _=>False) W W₁∧J pre W₁∧∀ W₂,J pre W₂→Ext (fun k=>k=w.heap.size+1) W₁ W₂→body.wpIn (Fence.wide.inRound l) (n - 1 - 1) P (Se R (J (pre++[x])) W₂) a₁ W₂) (fun _ _ _=>False))
    { tmps:=(ps.zip (encs x)).foldl (fun t (p,v)=>t.setIfInBounds p v) a.tmps,defers:=[] } W)
  (hdone:∀ W,J xs W→W.heap[w.heap.size]?=some (.deferred (some []))→Q .normal { a with defers:={ target:=.collected w.heap.size,args:=#[] } :: a.defers } W) :
  (Code.rangeFunc g ps assign body).wpIn Fence.wide n P Q a w:=by
 refine wpIn_rangeFunc ?_
 intro fn hfn
 obtain ⟨rec,hrec⟩:∃ rec:LoopState→Option Code→Loop,rec=fun st pe=>{ state:=st,pending:=pe,fn,tmps:=a.tmps,params:=ps,assign,body,defers:=w.heap.size }:=⟨_,rfl⟩
 obtain ⟨W1,hW1⟩:=Je ((w.alloc (.deferred (some []))).alloc (.loop (rec .ready none)))
 have hL1:W1.heap[w.heap.size+1]?=some (.loop (rec .ready none)):=by
  rw[←hW1];have:=World.alloc_heap_new (w.alloc (.deferred (some []))) (.loop (rec .ready none));rwa [World.size_alloc] at this
 have hK1:W1.heap[w.heap.size]?=some (.deferred (some [])):=by
  rw[←hW1];exact (Below.heap_alloc _ _ _ (by simp)).trans (World.alloc_heap_new w _)
 have hb1:Below w.heap.size w W1:=by
  rw[←hW1];exact (((Below.refl _ w).alloc (Nat.le_refl _) _).alloc (by simp) _)
 have hJ1:J [] W1:=hJ _ _ _ h00 (Ext.of_below hb1)
 refine ⟨w.heap.size+1,[{ target:=.collected w.heap.size,args:=#[] }],W1,{ target:=.fn (.func gf) lb,args:=#[.func (.yield (w.heap.size+1)) #[] #[]] },W1,gf,
  #[.func (.yield (w.heap.size+1)) #[] #[]]++lb,W1,?_,?_,?_,?_,fun _=>h1,?_⟩
 ·rw[←hW1,hrec];exact run_enterLoop_outer _ _ _ _ _
 ·simp only[resolve,hg]
  simp[go_sem]
 ·intro f' hf';trivial
 ·simp[invoke,go_sem,eg]
 ·refine (hseq (w.heap.size+1)
   (fun pre W=>J pre W∧W.heap[w.heap.size+1]?=some (.loop (rec .ready none))∧W.heap[w.heap.size]?=some (.deferred (some [])))
   W1 (Nat.lt_succ_self _) hb1
   (fun pre A B hs hx=>⟨hJ _ _ _ hs.1 (hx.mono (fun _ _ f=>f.elim)),(hx.block _ (Array.getElem?_eq_some_iff.1 hs.2.1).1 id).trans hs.2.1,(hx.block _ (Array.getElem?_eq_some_iff.1 hs.2.2).1 id).trans hs.2.2⟩)
   ?_ ⟨hJ1,hL1,hK1⟩).mono ?_
  ·rintro pre x W ⟨hi,hl,hk⟩ hpx
   have hlt:w.heap.size+1<W.heap.size:=(Array.getElem?_eq_some_iff.1 hl).1
   have hy:=run_yield (P:=P) (args:=encs x) hl (by rw[hrec];exact hps x)
   rw[hrec] at hy
   refine ⟨fn,_,assign,body,hy,roundIn_of_wpIn hfn (wpIn_mono (hround _ pre x W hi hpx hlt) ?_)⟩
   rintro e a1 W' hp
   cases e with
   | normal =>
    obtain ⟨hxa,hja,hbody⟩:=hp
    have hla:=(hxa.block _ hlt id).trans hl
    have hka:=(hxa.block _ (by omega) id).trans hk
    have hlt':w.heap.size+1<W'.heap.size:=(Array.getElem?_eq_some_iff.1 hla).1
    refine ⟨_,run_beginRound hla (by rw[hrec]),?_⟩
    have hl2:(W'.putObj (w.heap.size+1) (.loop { rec .ready none with state:=.busy })).heap[w.heap.size+1]?=some (.loop { rec .ready none with state:=.busy }):=World.putObj_heap_same hlt'
    have hk2:(W'.putObj (w.heap.size+1) (.loop { rec .ready none with state:=.busy })).heap[w.heap.size]?=some (.deferred (some [])):=(World.putObj_heap_other (by omega)).trans hka
    have hx2:Ext (fun k=>k=w.heap.size+1) W' (W'.putObj (w.heap.size+1) (.loop { rec .ready none with state:=.busy })):=ZQ _ _ _
    have hmono:∀ {A B:World},Ext (fun k=>k=w.heap.size+1) A B→Ext (fun k=>k=w.heap.size∨k=w.heap.size+1) A B:=fun hx=>hx.mono (fun k _ hk=>.inr hk)
    refine wpIn_mono (hbody _ (hJ _ _ _ hja (hmono hx2)) hx2) ?_
    have s1:=(Array.getElem?_eq_some_iff.1 hl2).1
    have s0:=(Array.getElem?_eq_some_iff.1 hk2).1
    have nR1:¬ R (w.heap.size+1):=fun h=>(hR _ h).2 rfl
    have nR0:¬ R w.heap.size:=fun h=>(hR _ h).1 rfl
    rintro e a3 W3 hp
    cases e with
    | normal =>
     obtain ⟨hj3,hx3⟩:=hp
     have hl3:=(hx3.block _ s1 nR1).trans hl2
     have hk3:=(hx3.block _ s0 nR0).trans hk2
     have hr:=run_endRound (P:=P) none hl3
     rw[hrec] at hr
     refine ⟨_,_,hr,rfl,⟨hJ _ _ _ hj3 (hmono (ZQ _ _ _)),?_,(World.putObj_heap_other (by omega)).trans hk3⟩,?_⟩
     ·rw[hrec];exact World.putObj_heap_same (Array.getElem?_eq_some_iff.1 hl3).1
     ·have e1:Ext (fun k=>k=w.heap.size+1∨R k) W W':=hxa.mono (fun _ _ f=>f.elim)
      have e2:Ext (fun k=>k=w.heap.size+1∨R k) W' (W'.putObj (w.heap.size+1) (.loop { rec .ready none with state:=.busy })):=hx2.mono (fun _ _ h=>.inl h)
      have e3:Ext (fun k=>k=w.heap.size+1∨R k) (W'.putObj (w.heap.size+1) (.loop { rec .ready none with state:=.busy })) W3:=hx3.mono (fun _ _ h=>.inr h)
      exact ((e1.trans e2).trans e3).trans ((ZQ _ _ _).mono (fun _ _ h=>.inl h))
    | ret=>exact hp.elim
    | exit id=>exact hp.elim
    | goto t=>exact hp.elim
    | panic ch=>exact hp.elim
    | outgrown=>exact hp.elim
   | ret=>exact hp.elim
   | exit id=>exact hp.elim
   | goto t=>exact hp.elim
   | panic ch=>exact hp.elim
   | outgrown=>exact hp.elim
  ·rintro e W2 ⟨⟨v,rfl⟩,hi,hl,hk⟩
   refine ⟨none,_,by have:=run_endLoop (P:=P) hl (by rw[hrec];simp);rw[hrec] at this;exact this,hdone _ (hJ _ _ _ hi ?_) ((World.putObj_heap_other (by omega)).trans hk)⟩
   have hx:=ZQ W2 (w.heap.size+1) (.loop { (rec .ready none) with state:=.exhausted })
   rw[hrec] at hx
   exact hx.mono (fun k _ hk=>.inr hk)
section
variable {α:Type} {ea:α→List Value} {k:Nat} {w:World} {v:Value} {l:List α}
theorem Z6.ext {S:Nat→Prop} {w':World} (h:Z6 ea k w v l) (hx:Ext S w w') (hn:∀ b o n cap,v=.slice (some ⟨b,o,none⟩) n cap→¬ S b):Z6 ea k w' v l:=by
 obtain ⟨a,cap,rfl,h2,h3,h4⟩:=h
 refine ⟨a,cap,rfl,h2,h3,fun hl=>?_⟩
 obtain ⟨b,off,h5,h6⟩:=h4 hl
 exact ⟨b,off,h5,fun i x hi j u hj=>hx.keep (h6 i x hi j u hj) (hn b off l.length cap (by rw[h5]))⟩
end
def Zb {α:Type} (l:List α):List (Nat × α):=(l.zipIdx.map fun p=>(p.2,p.1)).reverse
theorem YF {α:Type} (l:List α):(Zb l).length=l.length:=by simp[Zb]
theorem SK {α:Type} (l:List α) {k:Nat} {x:α} (hk:l[k]?=some x):(Zb l)[l.length - (k+1)]?=some (k,x):=by
 have hkl:=(List.getElem?_eq_some_iff.1 hk).1
 unfold Zb
 rw[List.getElem?_reverse (by simp;omega)]
 simp only[List.length_map,List.length_zipIdx]
 rw[show l.length - 1 - (l.length - (k+1))=k by omega]
 simp[hk]
theorem V9 {α:Type} (l:List α) {k:Nat} {x:α} (hk:l[k]?=some x):(Zb l).take (l.length - (k+1))++[(k,x)]=(Zb l).take (l.length - k):=by
 have hkl:=(List.getElem?_eq_some_iff.1 hk).1
 rw[show l.length - k=(l.length - (k+1))+1 by omega,List.take_add_one,SK l hk]
 rfl
attribute [local go_sem] Oper.semAt_some
theorem Si (va:Option Addr) (m vc:Nat) (w:World):Calls Tryz.prog 94 #[.slice va m vc] w
  fun e w'=>e=.returned (.func (.func 127) #[] #[.pointer (some ⟨w.heap.size,0,none⟩)])∧w'=w.alloc (.cells #[.slice va m vc] 34):=by
 go_enter Tryz.func94,Tryz.ntmps94
 go_wp2_with fail
 go_ret
 exact ⟨rfl,rfl⟩
theorem Tp (n:Nat) (hn:1≤n) (Bs:Nat) (v:Value) (l:List El) (R:Nat→Prop) (w:World) (hv:Z6 El.cells 4 w v l) (hsz:l.length≤1000000) (hB:w.cell? ⟨Bs,0,none⟩=some v) (hRB:¬ R Bs) (hRv:l≠[]→∀ b o m c,v=.slice (some ⟨b,o,none⟩) m c→¬ R b∧b<w.heap.size) :
  WV Tryz.prog n 127 #[.pointer (some ⟨Bs,0,none⟩)] (fun x:Nat × El=>#[.int .i64 x.1,.agg #[.int .i64 x.2.id.n,.int .i64 x.2.id.r,.int .i64 x.2.ch,.bool x.2.gone]]) R (Zb l) w:=by
 intro lb I W hl hb hI hY h0
 obtain ⟨va,vc,rfl,hcap,hmax,hcs⟩:=hv
 unfold maxLen at hmax
 have hBl:=Zy hB
 have HC:=Lib.hid hcs
 have HI:=Lib.hid hI
 have HY:=Lib.hid hY
 have HB:=Jh (Z0 hb hB)
 have HV:=Lib.hid hRv
 have HBB:=Lib.hid hb
 clear hcs hI hY hRv hb hB
 refine callsIn_of_wp Tryz.func127 rfl trivial ?_ rfl
 simp only[Tryz.ntmps127,List.size_toArray,List.length_cons,List.length_nil,Nat.reduceAdd,Nat.reduceSub,Array.replicate_succ,Array.replicate_zero,List.push_toArray,List.append_toArray,List.nil_append,List.cons_append]
 have b0:=HB.out
 gi_wp2
 have hS0:Z6 El.cells 4 W (.slice va l.length vc) l:=(show Z6 El.cells 4 w (.slice va l.length vc) l from ⟨va,vc,rfl,hcap,by unfold maxLen;omega,HC.out⟩).ext (Ext.mono (S:=fun _=>False) ⟨HBB.out.os,HBB.out.tape,HBB.out.output,HBB.out.size,fun k hk _=>HBB.out.block k hk⟩ (fun _ _ h=>h)) (fun _ _ _ _ _ h=>h)
 gi_loopw [3] (fun iv wr=>∃ (k:Nat) (j:Int),j+1=(k:Int)∧k≤l.length∧iv=.int .i64 j∧wr.cell? ⟨Bs,0,none⟩=some (.slice va l.length vc)∧Z6 El.cells 4 wr (.slice va l.length vc) l∧I ((Zb l).take (l.length - k)) wr) (fun iv _=>(intOf iv+1).toNat)
 case atStart=>exact ⟨l.length,(l.length:Int) - 1,by omega,Nat.le_refl _,rfl,HB.out,hS0,by rw[Nat.sub_self];exact h0⟩
 case round =>
  clear b0 hS0 h0
  obtain ⟨k,j,hj,hk,rfl,b0,hS,hi⟩:=hrel
  by_cases hk0:0<k
  ·obtain ⟨q,rfl⟩:∃ q,k=q+1:=⟨k - 1,by omega⟩
   obtain rfl:j=(q:Int):=by omega
   obtain ⟨x,hx⟩:∃ x,l[q]?=some x:=⟨_,List.getElem?_eq_getElem (by omega)⟩
   obtain ⟨_,_,e1,_,_,h4⟩:=id hS
   cases e1
   obtain ⟨b,o,rfl,hcc⟩:=h4 (by intro e;rw[e] at hx;simp at hx)
   have x0:wr.cell? ⟨b,o+q*4,none⟩=some (.int .i64 x.id.n):=hcc q x hx 0 _ rfl
   have x1:wr.cell? ⟨b,o+q*4+1,none⟩=some (.int .i64 x.id.r):=hcc q x hx 1 _ rfl
   have x2:wr.cell? ⟨b,o+q*4+2,none⟩=some (.int .i64 x.ch):=hcc q x hx 2 _ rfl
   have x3:wr.cell? ⟨b,o+q*4+3,none⟩=some (.bool x.gone):=hcc q x hx 3 _ rfl
   have HT:=Jh (V9 l hx)
   have hne0:l≠[]:=by intro e;rw[e] at hx;simp at hx
   obtain ⟨fn,tmps,assign,body,hy,hR⟩:=HY.out ((Zb l).take (l.length - (q+1))) (q,x) wr hi (by rw[HT.out];exact List.take_prefix _ _)
   dsimp only at hy
   have hql:(q:Int)<(l.length:Int):=by omega
   clear hcc h4 hx hj
   gi_wp2
   refine hR.mono ?_
   rintro e W3 ⟨rfl,hI3,hx3⟩
   obtain ⟨v1,v2⟩:=HV.out hne0 b o _ _ rfl
   have hne:¬ (Bs=lb∨R Bs):=fun h=>by
    rcases h with h|h
    ·omega
    ·exact hRB h
   have B3:=Jh (hx3.keep b0 hne)
   have S3:=Jh (hS.ext hx3 (fun b' o' m c e h=>by
    cases e
    rcases h with h|h
    ·omega
    ·exact v1 h))
   rw[HT.out] at hI3
   clear b0 hS x0 x1 x2 x3 hi hx3 hy hR v1 v2 hne
   gi_wp2
   go_roundw
   case rel=>exact ⟨q,(q:Int) - 1,by omega,by omega,rfl,B3.out,S3.out,hI3⟩
   case measure=>simp[intOf]
  ·obtain rfl:k=0:=by omega
   obtain rfl:j=-1:=by omega
   gi_wp2
   go_end0
   have e0:(Zb l).take (l.length - 0)=Zb l:=List.take_of_length_le (by rw[YF];omega)
   rw[e0] at hi
   exact ⟨⟨_,rfl⟩,hi⟩
def upd {α:Type} (f:Nat→α) (i:Nat) (x:α):Nat→α:=fun t=>if t=i then x else f t
theorem Qb {α:Type} (f:Nat→α) (i:Nat) (x:α):upd f i x i=x:=by simp[upd]
theorem Rt {α:Type} (f:Nat→α) {i t:Nat} (x:α) (h:t≠i):upd f i x t=f t:=by simp[upd,h]
section
variable {α:Type} {ea:α→List Value} {k:Nat} {T:TypeId} {sz:Nat} {w w':World} {blk n:Nat} {f:Nat→α}
def Z8 (ea:α→List Value) (k:Nat) (T:TypeId) (sz:Nat) (w:World) (blk n:Nat) (f:Nat→α):Prop :=
 ∃ cur,w.heap[blk]?=some (.cells cur T (0,0))∧cur.size=sz∧n*k≤sz∧∀ i,i<n→∀ j u,(ea (f i))[j]?=some u→cur[i*k+j]?=some u
theorem Z8.cell (h:Z8 ea k T sz w blk n f) {i j:Nat} {u:Value} (hi:i<n) (hj:(ea (f i))[j]?=some u):w.cell? ⟨blk,i*k+j,none⟩=some u:=by
 obtain ⟨cur,h1,_,_,h2⟩:=h
 simp only[World.cell?,h1]
 exact h2 i hi j u hj
theorem Z8.lt (h:Z8 ea k T sz w blk n f):blk<w.heap.size:=by
 obtain ⟨cur,h1,_⟩:=h
 exact (Array.getElem?_eq_some_iff.1 h1).1
theorem Z8.ext {S:Nat→Prop} (h:Z8 ea k T sz w blk n f) (hx:Ext S w w') (hn:¬ S blk):Z8 ea k T sz w' blk n f:=by
 have hl:=h.lt
 obtain ⟨cur,h1,h2⟩:=h
 exact ⟨cur,(hx.block blk hl hn).trans h1,h2⟩
theorem Z8.below (h:Z8 ea k T sz w blk n f) (hb:Below w.heap.size w w'):Z8 ea k T sz w' blk n f :=
 h.ext (Ext.of_below (S:=fun _=>False) hb) id
theorem Z8.drew (h:Z8 ea k T sz w blk n f):Z8 ea k T sz w.drew blk n f:=h
def ZZ (f:Nat→α) (p q:Nat):Nat→α:=fun t=>if t=p then f q else if t=q then f p else f t
theorem Own.slab {base g cap:Nat} {l:List α} [Inhabited α] (hk:∀ x,(ea x).length=k) (h:Own ea k T base w (.slice (some ⟨g,0,none⟩) l.length cap) l):Z8 ea k T (cap*k) w g l.length (fun i=>l[i]!)∧base≤g∧l.length≤cap∧cap≤maxLen:=by
 obtain ⟨h1,h2⟩:=h
 rcases h2 with ⟨h3,_⟩|⟨g',cap',cur,h3,hb,hg,hnc,hcm,hcs,htake⟩
 ·cases h3
 ·cases h3
  refine ⟨⟨cur,hg,hcs,Nat.mul_le_mul_right k hnc,fun i hi j u hj=>?_⟩,hb,hnc,hcm⟩
  have hx:l[i]?=some l[i]!:=by rw[List.getElem?_eq_getElem hi,getElem!_pos l i hi]
  have h4:=getElem?_flatMap_k hk l i _ hx j u hj
  rw[←htake,List.getElem?_take] at h4
  split at h4
  ·rw[Array.getElem?_toList] at h4;exact h4
  ·cases h4
theorem Z8.own {base cap:Nat} (hk:∀ x,(ea x).length=k) (hk0:0<k) (h:Z8 ea k T (cap*k) w blk n f) (hb:base≤blk) (hc:n≤cap) (hm:cap≤maxLen):Own ea k T base w (.slice (some ⟨blk,0,none⟩) n cap) ((List.range n).map f):=by
 obtain ⟨cur,h1,h2,h3,h4⟩:=h
 have hlen:((List.range n).map f).length=n:=by simp
 refine ⟨Y9 hk _,.inr ⟨blk,cap,cur,by rw[hlen],hb,h1,by rw[hlen];exact hc,hm,h2,?_⟩⟩
 rw[hlen]
 refine List.ext_getElem? fun t=>?_
 rw[List.getElem?_take]
 by_cases ht:t<n*k
 ·rw[if_pos ht,Array.getElem?_toList]
  have hd:t / k<n:=(Nat.div_lt_iff_lt_mul hk0).2 ht
  have hm':t % k<k:=Nat.mod_lt _ hk0
  have he:t / k*k+t % k=t:=by rw[Nat.mul_comm];exact Nat.div_add_mod t k
  obtain ⟨u,hu⟩:∃ u,(ea (f (t / k)))[t % k]?=some u:=⟨_,List.getElem?_eq_getElem (by rw[hk];exact hm')⟩
  have h5:=h4 (t / k) hd (t % k) u hu
  have h6:=getElem?_flatMap_k hk ((List.range n).map f) (t / k) (f (t / k)) (by simp[hd]) (t % k) u hu
  rw[he] at h5 h6
  rw[h5,h6]
 ·rw[if_neg ht,List.getElem?_eq_none]
  rw[Y9 hk,hlen];omega
end
section
variable {P:Program} {α:Type} {ea:α→List Value} {k sz blk n:Nat} {T:TypeId} {w:World} {f:Nat→α}
theorem Wz (b o j:Nat):(⟨b,o,none⟩:Addr).add j=⟨b,o+j,none⟩:=by unfold Addr.add;split <;> simp_all
structure Xc (P:Program) (T:TypeId) (k:Nat):Prop where
 agg:∀ w,(isAgg T).run P w=.ok true w
 size:∀ w,(sizeOf T).run P w=.ok k w
theorem Z8.load (h:Z8 ea k T sz w blk n f) (hk:∀ x,(ea x).length=k) (ht:Xc P T k) {i:Nat} (hi:i<n) :
  (Instr.loadAt T (.pointer (some ⟨blk,i*k,none⟩))).run P w=.ok (.agg (ea (f i)).toArray) w:=by
 have hl:=run_loadCells_list (P:=P) w ⟨blk,i*k,none⟩ (ea (f i)) (fun j v hj=>by rw[Wz];exact h.cell hi hj)
 rw[hk] at hl
 simp[Instr.loadAt,Instr.sureAddr,loadVar,ht.agg,ht.size,hl]
theorem Z8.store (h:Z8 ea k T sz w blk n f) (hk:∀ x,(ea x).length=k) (h1:∀ x,∀ u∈ea x,u.oneCell'=true) (ht:Xc P T k) {i:Nat} (hi:i<n) (x:α) :
  ∃ w',(Instr.storeAt T (.pointer (some ⟨blk,i*k,none⟩)) (.agg (ea x).toArray)).run P w=.ok () w'∧Z8 ea k T sz w' blk n (upd f i x)∧Ext (·=blk) w w':=by
 obtain ⟨cur,hg,hs,hn,hf⟩:=h
 have hik:i*k+k≤n*k:=by
  have:=Nat.mul_le_mul_right k (show i+1≤n from hi)
  rwa [Nat.add_mul,Nat.one_mul] at this
 have hst:=run_storeCells_at P blk (i*k) T (ea x) 0 cur w hg (by rw[hk];omega) (h1 x)
 rw[hk,Nat.add_zero] at hst
 refine ⟨w.setRow blk (cur.toList.take (i*k)++ea x++cur.toList.drop (i*k+k)).toArray,?_,⟨_,setRow_heap w blk _ _ _ _ hg,?_,hn,fun p hp j u hj=>?_⟩,⟨rfl,rfl,rfl,by simp[World.setRow],fun q hq hn=>by simp[World.setRow,Array.getElem?_modify];intro e;exact absurd e.symm hn⟩⟩
 ·simp[Instr.storeAt,Instr.sureAddr,storeVar,ht.size,Value.cells,hk,hst]
 ·rw[List.size_toArray,List.length_append,List.length_append,List.length_take,List.length_drop,hk,Array.length_toList]
  omega
 ·have hjk:∀ y,(ea y)[j]?=some u→j<k:=fun y hy=>by rw[←hk y];exact (List.getElem?_eq_some_iff.1 hy).1
  rw[List.getElem?_toArray,List.append_assoc]
  by_cases hpi:p=i
  ·subst hpi
   rw[Qb] at hj
   have:=hjk x hj
   rw[List.getElem?_append_right (by rw[List.length_take,Array.length_toList];omega),List.length_take,Array.length_toList,Nat.min_eq_left (by omega),show p*k+j - p*k=j by omega,List.getElem?_append_left (by rw[hk];exact this)]
   exact hj
  ·rw[Rt _ _ hpi] at hj
   have hjl:=hjk (f p) hj
   have h0:=hf p hp j u hj
   rcases Nat.lt_or_gt_of_ne hpi with hlt|hgt
   ·have:=Nat.mul_le_mul_right k (show p+1≤i from hlt)
    rw[Nat.add_mul,Nat.one_mul] at this
    rw[List.getElem?_append_left (by rw[List.length_take,Array.length_toList];omega),List.getElem?_take,if_pos (by omega),Array.getElem?_toList]
    exact h0
   ·have:=Nat.mul_le_mul_right k (show i+1≤p from hgt)
    rw[Nat.add_mul,Nat.one_mul] at this
    rw[List.getElem?_append_right (by rw[List.length_take,Array.length_toList];omega),List.length_take,Array.length_toList,Nat.min_eq_left (by omega),List.getElem?_append_right (by rw[hk];omega),hk,List.getElem?_drop,show i*k+k+(p*k+j - i*k - k)=p*k+j by omega,Array.getElem?_toList]
    exact h0
theorem Wa {α:Type} (f:Nat→α) (p q:Nat):ZZ f p q=upd (upd f p (f q)) q (f p):=by
 funext t
 unfold ZZ upd
 by_cases h1:t=p <;> by_cases h2:t=q <;> simp_all
theorem ZG {o:Oper} {ρ:Operand→Value} {T:TypeId} {x:Operand} {q v:Value} {W:World} (ho:o.op=.load T x) (hx:ρ x=q) (h:(Instr.loadAt T q).run P W=.ok v W):(execOp ρ o).run P W=.ok (.value v) W:=by
 unfold execOp;simp[ho,hx,h,Result.andThen]
theorem Yk {o:Oper} {ρ:Operand→Value} {T:TypeId} {p x:Operand} {q v:Value} {W W':World} (ho:o.op=.store T p x) (hp:ρ p=q) (hx:ρ x=v) (h:(Instr.storeAt T q v).run P W=.ok () W'):(execOp ρ o).run P W=.ok .skip W':=by
 unfold execOp;simp[ho,hp,hx,h,Result.andThen]
theorem XA {F:Fence} {m:Nat} {ops:Array Oper} {rest:List Oper} {o:Oper} {a:Act} {Q:Exit→Act→World→Prop} {W:World} (hg:o.guard=none) {x:Operand} {q v:Value} (ho:o.op=.load T x) (hx:a.eval x=q)
  (hr:(Instr.loadAt T q).run P W=.ok v W) (h:wpListIn F m P ops Q rest (a.put o.dst v) W):wpListIn F m P ops Q (o :: rest) a W:=by
 refine wpListIn_plain hg fun K hK'=>?_
 unfold Oper.wpIn
 refine ⟨?_,?_⟩
 ·simp[Oper.about,ho]
 ·rw[Oper.semAt_plain F _ _ (by rw[ho];intro c hc';cases hc')]
  simp[execOp,ho,hx,hr,Result.andThen]
  exact hK' _ _ h
theorem Xk {ops:Array Oper} {rest:List Oper} {o:Oper} {a:Act} {Q:Exit→Act→World→Prop} {W:World} (hg:o.guard=none) {x:Operand} {q v:Value} (ho:o.op=.load T x) (hx:a.eval x=q)
  (hr:(Instr.loadAt T q).run P W=.ok v W) (h:wpList P ops Q rest (a.put o.dst v) W):wpList P ops Q (o :: rest) a W :=
 wpList_plain hg fun _ hK=>by
  rw[Oper.wp,ZG ho hx hr]
  exact hK _ _ h
end
attribute [local go_sem] Oper.semAt_some
theorem Sk (va:Option Addr) (m vc:Nat) (w:World):Calls Tryz.prog 96 #[.slice va m vc] w
  fun e w'=>e=.returned (.func (.func 128) #[] #[.pointer (some ⟨w.heap.size,0,none⟩)])∧w'=w.alloc (.cells #[.slice va m vc] 37):=by
 go_enter Tryz.func96,Tryz.ntmps96
 go_wp2_with fail
 go_ret
 exact ⟨rfl,rfl⟩
theorem Tt (n:Nat) (hn:1≤n) (Bs:Nat) (v:Value) (l:List OpD) (R:Nat→Prop) (w:World) (hv:Z6 OpD.cells 26 w v l) (hsz:l.length≤1000000) (hB:w.cell? ⟨Bs,0,none⟩=some v) (hRB:¬ R Bs) (hRv:l≠[]→∀ b o m c,v=.slice (some ⟨b,o,none⟩) m c→¬ R b∧b<w.heap.size) :
  WV Tryz.prog n 128 #[.pointer (some ⟨Bs,0,none⟩)] (fun x:Nat × OpD=>#[.int .i64 x.1,.agg (OpD.cells x.2).toArray]) R (Zb l) w:=by
 intro lb I W hl hb hI hY h0
 obtain ⟨va,vc,rfl,hcap,hmax,hcs⟩:=hv
 unfold maxLen at hmax
 have hBl:=Zy hB
 have HC:=Lib.hid hcs
 have HI:=Lib.hid hI
 have HY:=Lib.hid hY
 have HB:=Jh (Z0 hb hB)
 have HV:=Lib.hid hRv
 have HBB:=Lib.hid hb
 clear hcs hI hY hRv hb hB
 refine callsIn_of_wp Tryz.func128 rfl trivial ?_ rfl
 simp only[Tryz.ntmps128,List.size_toArray,List.length_cons,List.length_nil,Nat.reduceAdd,Nat.reduceSub,Array.replicate_succ,Array.replicate_zero,List.push_toArray,List.append_toArray,List.nil_append,List.cons_append]
 have b0:=HB.out
 gi_wp2
 have hS0:Z6 OpD.cells 26 W (.slice va l.length vc) l:=(show Z6 OpD.cells 26 w (.slice va l.length vc) l from ⟨va,vc,rfl,hcap,by unfold maxLen;omega,HC.out⟩).ext (Ext.mono (S:=fun _=>False) ⟨HBB.out.os,HBB.out.tape,HBB.out.output,HBB.out.size,fun k hk _=>HBB.out.block k hk⟩ (fun _ _ h=>h)) (fun _ _ _ _ _ h=>h)
 gi_loopw [3] (fun iv wr=>∃ (k:Nat) (j:Int),j+1=(k:Int)∧k≤l.length∧iv=.int .i64 j∧wr.cell? ⟨Bs,0,none⟩=some (.slice va l.length vc)∧Z6 OpD.cells 26 wr (.slice va l.length vc) l∧I ((Zb l).take (l.length - k)) wr) (fun iv _=>(intOf iv+1).toNat)
 case atStart=>exact ⟨l.length,(l.length:Int) - 1,by omega,Nat.le_refl _,rfl,HB.out,hS0,by rw[Nat.sub_self];exact h0⟩
 case round =>
  clear b0 hS0 h0
  obtain ⟨k,j,hj,hk,rfl,b0,hS,hi⟩:=hrel
  by_cases hk0:0<k
  ·obtain ⟨q,rfl⟩:∃ q,k=q+1:=⟨k - 1,by omega⟩
   obtain rfl:j=(q:Int):=by omega
   obtain ⟨x,hx⟩:∃ x,l[q]?=some x:=⟨_,List.getElem?_eq_getElem (by omega)⟩
   obtain ⟨_,_,e1,_,_,h4⟩:=id hS
   cases e1
   obtain ⟨b,o,rfl,hcc⟩:=h4 (by intro e;rw[e] at hx;simp at hx)
   have hld:(Instr.loadAt 181 (.pointer (some ⟨b,o+q*26,none⟩))).run Tryz.prog wr=.ok (.agg (OpD.cells x).toArray) wr:=by
    have hl:=run_loadCells_list (P:=Tryz.prog) wr ⟨b,o+q*26,none⟩ (OpD.cells x) (fun j v hj=>by rw[Wz];exact hcc q x hx j v hj)
    rw[OpD.len] at hl
    simp[Instr.loadAt,Instr.sureAddr,loadVar,Tryz.isAgg181,Tryz.sizeOf181,hl]
   have HT:=Jh (V9 l hx)
   have hne0:l≠[]:=by intro e;rw[e] at hx;simp at hx
   obtain ⟨fn,tmps,assign,body,hy,hR⟩:=HY.out ((Zb l).take (l.length - (q+1))) (q,x) wr hi (by rw[HT.out];exact List.take_prefix _ _)
   dsimp only at hy
   have hql:(q:Int)<(l.length:Int):=by omega
   clear hcc h4 hx hj
   have HLD:=Lib.hid hld
   clear hld
   gi_wp2_with (refine XA (o:=⟨some 16,_,_,_,_,_⟩) rfl rfl rfl HLD.out ?_)
   refine hR.mono ?_
   rintro e W3 ⟨rfl,hI3,hx3⟩
   obtain ⟨v1,v2⟩:=HV.out hne0 b o _ _ rfl
   have hne:¬ (Bs=lb∨R Bs):=fun h=>by
    rcases h with h|h
    ·omega
    ·exact hRB h
   have B3:=Jh (hx3.keep b0 hne)
   have S3:=Jh (hS.ext hx3 (fun b' o' m c e h=>by
    cases e
    rcases h with h|h
    ·omega
    ·exact v1 h))
   rw[HT.out] at hI3
   clear b0 hS HLD hi hx3 hy hR v1 v2 hne
   gi_wp2
   go_roundw
   case rel=>exact ⟨q,(q:Int) - 1,by omega,by omega,rfl,B3.out,S3.out,hI3⟩
   case measure=>simp[intOf]
  ·obtain rfl:k=0:=by omega
   obtain rfl:j=-1:=by omega
   gi_wp2
   go_end0
   have e0:(Zb l).take (l.length - 0)=Zb l:=List.take_of_length_le (by rw[YF];omega)
   rw[e0] at hi
   exact ⟨⟨_,rfl⟩,hi⟩
def Y6 (i:Int):Value:=.int .i64 i
theorem YU:Tryz.prog.underlying 135=some (.map 23 3):=by kernel_rfl
theorem WA (w:World):(zeroValue 3).run Tryz.prog w=.ok (.int .i64 0) w:=by kernel_rfl
attribute [local go_sem] Z4.alloc Z4.drew Z4.setCell
def atI (hl:List (St × Int)) (a:St) (aft:Bool):Int:=(Z3 hl a).getD 0+if aft=true then 1 else 0
theorem Ru (pb mh:Nat) (hl:List (St × Int)) (a:St) (aft:Bool) (w:World) (hc:w.cell? ⟨pb,0,none⟩=some (.map (some mh))) (hm:Z4 St.val Y6 w mh hl) (hb:∀ k i,Z3 hl k=some i→0≤i∧i≤1000) :
  Calls Tryz.prog 95 #[.agg #[.int .i64 a.n,.int .i64 a.r,.bool aft],.pointer (some ⟨pb,0,none⟩)] w
   fun e w'=>e=.returned (.tuple #[.int .i64 (atI hl a aft),.bool (Z3 hl a).isSome])∧Below w.heap.size w w':=by
 have hlt:=Zy hc
 have hi:0≤(Z3 hl a).getD 0∧(Z3 hl a).getD 0≤1000:=by
  cases h:Z3 hl a with
  | none=>simp
  | some i=>exact hb a i h
 have hlk:∀ W,Z4 St.val Y6 W mh hl→(Instr.lookup 135 (.map (some mh)) (.agg #[.int .i64 a.n,.int .i64 a.r]) true).run Tryz.prog W=.ok (.tuple #[.int .i64 ((Z3 hl a).getD 0),.bool (Z3 hl a).isSome]) W:=fun W hW=>by
  have:=hW.lookupOk ZU YU WA a
  rw[show ((Z3 hl a).map Y6).getD (.int .i64 0)=.int .i64 ((Z3 hl a).getD 0) from by cases Z3 hl a <;> rfl] at this
  exact this
 unfold atI
 generalize (Z3 hl a).getD 0=i at *
 generalize (Z3 hl a).isSome=is at *
 obtain ⟨i0,i1⟩:=hi
 clear hb
 cases aft with
 | false =>
  go_enter Tryz.func95,Tryz.ntmps95
  go_wp2_with fail
  go_ret2
  exact ⟨by simp,(Below.refl _ _).alloc (Nat.le_refl _) _⟩
 | true =>
  go_enter Tryz.func95,Tryz.ntmps95
  go_wp2_with fail
  go_ret2
  exact ⟨by simp,(Below.refl _ _).alloc (Nat.le_refl _) _⟩
def Zp (pre:List (Nat × El)):List (St × Int):=pre.foldl (fun h p=>Zw h p.2.id (p.1:Int)) []
theorem TL (pre:List (Nat × El)) (x:Nat × El):Zp (pre++[x])=Zw (Zp pre) x.2.id (x.1:Int):=by simp[Zp]
def YS (l:List El) (k:St):Option Nat:=l.findIdx? (fun x=>decide (x.id=k))
theorem UC (k:St):∀ (l:List El) (n:Nat),Z3 (((l.zipIdx n).map fun p=>(p.2,p.1)).foldr (fun (p:Nat × El) h=>Zw h p.2.id (p.1:Int)) []) k=(YS l k).map (fun i=>((n+i:Nat):Int))
 | [],n=>by simp[YS,Z3]
 | x :: l,n=>by
  have ih:=UC k l (n+1)
  simp only[List.zipIdx_cons,List.map_cons,List.foldr_cons]
  unfold YS at ih ⊢
  rw[List.findIdx?_cons]
  by_cases h:x.id=k
  ·subst h
   rw[ZX]
   simp
  ·rw[ZF _ _ h,ih]
   simp only[h,decide_false,Bool.false_eq_true,if_false,Option.map_map]
   congr 1
   funext i
   simp only[Function.comp_apply]
   omega
theorem W5 (l:List El) (k:St):Z3 (Zp (Zb l)) k=(YS l k).map (fun i:Nat=>(i:Int)):=by
 unfold Zp Zb
 rw[List.foldl_reverse]
 have:=UC k l 0
 simp only[Nat.zero_add] at this
 exact this
theorem ST {l:List El} {k:St} {i:Nat} (h:YS l k=some i):i<l.length:=by
 unfold YS at h
 rw[List.findIdx?_eq_some_iff_findIdx_eq] at h
 exact h.1
theorem TN {l:List El} (hl:l.length≤1000) (k:St) (i:Int) (h:Z3 (Zp (Zb l)) k=some i):0≤i∧i≤1000:=by
 rw[W5] at h
 cases hp:YS l k with
 | none=>rw[hp] at h;cases h
 | some j =>
  rw[hp] at h
  have:=ST hp
  simp at h
  omega
theorem R5 {α:Type} {l:List α} {x:Nat × α} (h:x∈Zb l):x.2∈l:=by
 unfold Zb at h
 rw[List.mem_reverse,List.mem_map] at h
 obtain ⟨⟨y,i⟩,h1,rfl⟩:=h
 exact List.mem_of_getElem? (List.mem_zipIdx_iff_getElem?.1 h1)
def ZV (h:List (St × Int)) (o:OpD):Option Z9:=if ((Z3 h o.fr).isSome && (Z3 h o.tr).isSome)=true then some ⟨o,atI h o.fr o.fa,atI h o.tr o.ta⟩ else none
def Y1 (h:List (St × Int)) (pre:List (Nat × OpD)):List Z9:=pre.filterMap fun p=>ZV h p.2
theorem UU (h:List (St × Int)) (pre:List (Nat × OpD)) (x:Nat × OpD):Y1 h (pre++[x])=Y1 h pre++(ZV h x.2).toList:=by
 unfold Y1
 rw[List.filterMap_append]
 congr 1
theorem Wj (h:List (St × Int)) (pre:List (Nat × OpD)):(Y1 h pre).length≤pre.length:=List.length_filterMap_le _ _
section
variable {α:Type} {ea:α→List Value} {k:Nat} {e:TypeId} {base:Nat} {w:World} {v:Value} {l:List α}
theorem X7 {F:Fence} {n:Nat} {P:Program} {ops:Array Oper} {rest:List Oper} {o:Oper} {a:Act} {Q:Exit→Act→World→Prop} (hgd:o.guard=none) (s x:Operand) (t:TypeId)
  (ho:o.op=.call { callee:=.builtin .append,args:=#[s,x],argTypes:=#[t,t] })
  (i:TypeInfo) (z:Value) (bytes:Nat) (ht:P.underlying t=some (.slice e)) (hi:P.info? e=some i) (hz:i.zero=some z)
  (hsize:i.size=k) (hby:i.bytes=bytes) (hzs:z.cells.size=k) (hk0:0<k) (hk:∀ x,(ea x).length=k) (h1:∀ x,∀ u∈ea x,u.oneCell'=true)
  (hs:a.eval s=v) (hown:Own ea k e base w v l) (y:α) (nb c:Nat) (hx:a.eval x=.slice (some ⟨nb,0,none⟩) 1 c) (hnews:∀ j u,(ea y)[j]?=some u→w.cell? ⟨nb,j,none⟩=some u)
  (h63:l.length+1≤maxLen) (hbytes:(l.length+1)*bytes≤140737488355328) (hbase:base≤w.heap.size)
  (h:∀ v' w',Own ea k e base w' v' (l++[y])→Ext (fun b=>v.ownBlock=some b) w w'→wpListIn F n P ops Q rest (a.put o.dst v') w'):wpListIn F n P ops Q (o :: rest) a w:=by
 refine wpListIn_append_own w hgd s x t ho base e i z k bytes ht hi hz hsize hby hzs hk0 v l.length (l.flatMap ea) hs hown ⟨nb,0,none⟩ 1 c (ea y) hx (by rw[hk,Nat.one_mul]) (fun j u hj=>?_) (h1 y) h63 hbytes hbase (fun v' w' h2 h3 _=>h v' w' ?_ (Ext.of_grown h3))
 ·have:=hnews j u hj
  rw[show (Addr.add ⟨nb,0,none⟩ j)=⟨nb,j,none⟩ from by unfold Addr.add;split <;> simp_all]
  exact this
 ·unfold Own
  rw[List.length_append,List.flatMap_append]
  simpa using h2
end
end Go.Proofs.YtlgipkemoldckaaGreatDoor
namespace Go.Proofs.YtlgipkemoldckaaGreatDoor
section
variable {α:Type}
def Zj (a b:Nat) (f g:Nat→α):Prop :=
 ∃ s t:Nat→Nat,(∀ i,s (t i)=i)∧(∀ i,t (s i)=i)∧(∀ i,i<a∨b≤i→s i=i)∧∀ i,g i=f (s i)
theorem Zj.refl (a b:Nat) (f:Nat→α):Zj a b f f:=⟨id,id,fun _=>rfl,fun _=>rfl,fun _ _=>rfl,fun _=>rfl⟩
theorem Zj.trans {a b:Nat} {f g h:Nat→α} (h1:Zj a b f g) (h2:Zj a b g h):Zj a b f h:=by
 obtain ⟨s,t,st,ts,so,hg⟩:=h1
 obtain ⟨s',t',st',ts',so',hh⟩:=h2
 exact ⟨fun i=>s (s' i),fun i=>t' (t i),fun i=>by simp only[st',st],fun i=>by simp only[ts,ts'],fun i hi=>by simp only[so' i hi,so i hi],fun i=>by simp only[hh,hg]⟩
theorem Zj.mono {a b a' b':Nat} {f g:Nat→α} (h:Zj a b f g) (ha:a'≤a) (hb:b≤b'):Zj a' b' f g:=by
 obtain ⟨s,t,st,ts,so,hg⟩:=h
 exact ⟨s,t,st,ts,fun i hi=>so i (by omega),hg⟩
theorem Zj.out {a b:Nat} {f g:Nat→α} (h:Zj a b f g) {i:Nat} (hi:i<a∨b≤i):g i=f i:=by
 obtain ⟨s,t,st,ts,so,hg⟩:=h
 rw[hg,so i hi]
theorem Zj.from {a b:Nat} {f g:Nat→α} (h:Zj a b f g) {i:Nat} (h1:a≤i) (h2:i<b):∃ j,a≤j∧j<b∧g i=f j:=by
 obtain ⟨s,t,st,ts,so,hg⟩:=h
 refine ⟨s i,?_,?_,hg i⟩
 ·refine Nat.le_of_not_lt fun hn=>?_
  have:=so (s i) (.inl hn)
  have h3:=congrArg t this
  rw[ts,ts] at h3
  omega
 ·refine Nat.lt_of_not_le fun hn=>?_
  have:=so (s i) (.inr hn)
  have h3:=congrArg t this
  rw[ts,ts] at h3
  omega
theorem Zj.swap {a b p q:Nat} (f:Nat→α) (hp:a≤p∧p<b) (hq:a≤q∧q<b):Zj a b f (ZZ f p q):=by
 refine ⟨fun i=>if i=p then q else if i=q then p else i,fun i=>if i=p then q else if i=q then p else i,fun i=>?_,fun i=>?_,fun i hi=>?_,fun i=>?_⟩
 ·simp only;(repeat' split) <;> omega
 ·simp only;(repeat' split) <;> omega
 ·simp only;rw[if_neg (by omega),if_neg (by omega)]
 ·unfold ZZ;simp only;split
  ·rfl
  ·split <;> rfl
def ZE (lt:α→α→Prop) (a b:Nat) (f:Nat→α):Prop:=∀ i j,a≤i→i<j→j<b→lt (f i) (f j)
theorem ZE.congr {lt:α→α→Prop} {a b:Nat} {f g:Nat→α} (h:ZE lt a b f) (hg:∀ i,a≤i→i<b→g i=f i):ZE lt a b g:=fun i j h1 h2 h3=>by
 rw[hg i h1 (by omega),hg j (by omega) h3];exact h i j h1 h2 h3
structure YW (lt:α→α→Prop) (pos:α→Nat) (cf:α→α→Int):Prop where
 irrefl:∀ x,¬ lt x x
 trans:∀ x y z,lt x y→lt y z→lt x z
 total:∀ x y,pos x≠pos y→lt x y∨lt y x
 says:∀ x y,pos x<pos y→(cf y x<0↔lt y x)
variable {lt:α→α→Prop} {pos:α→Nat} {cf:α→α→Int}
structure X6 (lt:α→α→Prop) (pos:α→Nat) (a i j:Nat) (f g:Nat→α):Prop where
 perm:Zj a (i+1) f g
 lo:a≤j
 hi:j≤i
 rest:∀ p q,a≤p→p<q→q≤i→p≠j→q≠j→lt (g p) (g q)
 above:∀ q,j<q→q≤i→lt (g j) (g q)
 later:∀ p,a≤p→p≤i→p≠j→pos (g p)<pos (g j)
theorem X6.start {a i:Nat} {f:Nat→α} (hai:a≤i) (hs:ZE lt a i f) (hp:∀ p,a≤p→p<i→pos (f p)<pos (f i)):X6 lt pos a i i f f :=
 ⟨Zj.refl _ _ _,hai,Nat.le_refl _,fun p q h1 h2 h3 h4 h5=>hs p q h1 h2 (by omega),fun q h1 h2=>by omega,fun p h1 h2 h3=>hp p h1 (by omega)⟩
theorem X6.down {a i j:Nat} {f g:Nat→α} (h:X6 lt pos a i (j+1) f g) (haj:a≤j) (hlt:lt (g (j+1)) (g j)):X6 lt pos a i j f (ZZ g (j+1) j):=by
 have hi:=h.hi
 have e0:ZZ g (j+1) j j=g (j+1):=by simp[ZZ]
 have e1:ZZ g (j+1) j (j+1)=g j:=by simp[ZZ]
 have eo:∀ t,t≠j→t≠j+1→ZZ g (j+1) j t=g t:=fun t h1 h2=>by simp[ZZ,h1,h2]
 refine ⟨h.perm.trans (Zj.swap g ⟨by omega,by omega⟩ ⟨by omega,by omega⟩),haj,by omega,fun p q h1 h2 h3 h4 h5=>?_,fun q h1 h2=>?_,fun p h1 h2 h3=>?_⟩
 ·by_cases hp:p=j+1
  ·subst hp
   rw[e1,eo q h5 (by omega)]
   exact h.rest j q haj (by omega) h3 (by omega) (by omega)
  ·by_cases hq:q=j+1
   ·subst hq
    rw[e1,eo p h4 hp]
    exact h.rest p j h1 (by omega) (by omega) (by omega) (by omega)
   ·rw[eo p h4 hp,eo q h5 hq]
    exact h.rest p q h1 h2 h3 hp hq
 ·rw[e0]
  by_cases hq:q=j+1
  ·subst hq;rw[e1];exact hlt
  ·rw[eo q (by omega) hq];exact h.above q (by omega) h2
 ·rw[e0]
  by_cases hp:p=j+1
  ·subst hp;rw[e1];exact h.later j haj (by omega) (by omega)
  ·rw[eo p h3 hp];exact h.later p h1 h2 hp
theorem X6.done {a i j:Nat} {f g:Nat→α} (R:YW lt pos cf) (h:X6 lt pos a i j f g) (hst:j=a∨¬ lt (g j) (g (j - 1))):ZE lt a (i+1) g:=by
 have hlo:=h.lo
 have hbelow:∀ p,a≤p→p<j→lt (g p) (g j):=fun p h1 h2=>by
  have hl:lt (g (j - 1)) (g j):=by
   rcases hst with e|hn
   ·omega
   ·have:=h.later (j - 1) (by omega) (by have:=h.hi;omega) (by omega)
    rcases R.total (g j) (g (j - 1)) (by omega) with t|t
    ·exact absurd t hn
    ·exact t
  by_cases hp:p=j - 1
  ·rw[hp];exact hl
  ·exact R.trans _ _ _ (h.rest p (j - 1) h1 (by omega) (by have:=h.hi;omega) (by omega) (by omega)) hl
 intro p q h1 h2 h3
 by_cases hp:p=j
 ·subst hp;exact h.above q h2 (by omega)
 ·by_cases hq:q=j
  ·subst hq;exact hbelow p h1 h2
  ·exact h.rest p q h1 h2 (by omega) hp hq
def Yj (f:Nat→α) (a k:Nat):Nat→α:=fun t=>if a≤t∧t<k then f (t+1) else if t=k then f a else f t
theorem Sy (f:Nat→α) (a:Nat):Yj f a a=f:=by
 funext t;unfold Yj;rw[if_neg (by omega)];split
 ·rename_i h;rw[h]
 ·rfl
theorem SH (f:Nat→α) (a k:Nat) (h:a≤k):ZZ (Yj f a k) k (k+1)=Yj f a (k+1):=by
 funext t
 unfold ZZ Yj
 by_cases h1:t=k
 ·subst h1;rw[if_pos rfl,if_neg (by omega),if_neg (by omega),if_pos (by omega)]
 ·by_cases h2:t=k+1
  ·subst h2;rw[if_neg (by omega),if_pos rfl,if_neg (by omega),if_pos rfl,if_neg (by omega),if_pos rfl]
  ·rw[if_neg h1,if_neg h2]
   by_cases h3:a≤t∧t<k
   ·rw[if_pos h3,if_pos (by omega)]
   ·rw[if_neg h3,if_neg h1,if_neg (by omega),if_neg h2]
theorem Sz (f:Nat→α) {a k lo hi:Nat} (h:a≤k) (h1:lo≤a) (h2:k<hi):Zj lo hi f (Yj f a k):=by
 refine ⟨fun t=>if a≤t∧t<k then t+1 else if t=k then a else t,fun t=>if t=a then k else if a<t∧t≤k then t - 1 else t,fun i=>?_,fun i=>?_,fun i hi=>?_,fun i=>?_⟩
 ·simp only;(repeat' split) <;> omega
 ·simp only;(repeat' split) <;> omega
 ·simp only;rw[if_neg (by omega),if_neg (by omega)]
 ·unfold Yj;simp only;split
  ·rfl
  ·split <;> rfl
def Yl (f:Nat→α) (m k:Nat):Nat→α:=fun t=>if k<t∧t≤m then f (t - 1) else if t=k then f m else f t
theorem SQ (f:Nat→α) (m:Nat):Yl f m m=f:=by
 funext t;unfold Yl;rw[if_neg (by omega)];split
 ·rename_i h;rw[h]
 ·rfl
theorem SE (f:Nat→α) (m k:Nat) (h:k+1≤m):ZZ (Yl f m (k+1)) (k+1) k=Yl f m k:=by
 funext t
 unfold ZZ Yl
 by_cases h1:t=k+1
 ·subst h1;rw[if_pos rfl,if_neg (by omega),if_neg (by omega),if_pos (by omega)];rfl
 ·by_cases h2:t=k
  ·subst h2;rw[if_neg (by omega),if_pos rfl,if_neg (by omega),if_pos rfl,if_neg (by omega),if_pos rfl]
  ·rw[if_neg h1,if_neg h2]
   by_cases h3:k+1<t∧t≤m
   ·rw[if_pos h3,if_pos (by omega)]
   ·rw[if_neg h3,if_neg h1,if_neg (by omega),if_neg h2]
theorem SY (f:Nat→α) {m k lo hi:Nat} (h:k≤m) (h1:lo≤k) (h2:m<hi):Zj lo hi f (Yl f m k):=by
 refine ⟨fun t=>if k<t∧t≤m then t - 1 else if t=k then m else t,fun t=>if t=m then k else if k≤t∧t<m then t+1 else t,fun i=>?_,fun i=>?_,fun i hi=>?_,fun i=>?_⟩
 ·simp only;(repeat' split) <;> omega
 ·simp only;(repeat' split) <;> omega
 ·simp only;rw[if_neg (by omega),if_neg (by omega)]
 ·unfold Yl;simp only;split
  ·rfl
  ·split <;> rfl
def Yu (f:Nat→α) (a b n:Nat):Nat→α:=fun t=>if a≤t∧t<a+n then f (t - a+b) else if b≤t∧t<b+n then f (t - b+a) else f t
theorem SB (f:Nat→α) (a b:Nat):Yu f a b 0=f:=by
 funext t;unfold Yu;rw[if_neg (by omega),if_neg (by omega)]
theorem SP (f:Nat→α) {a b n:Nat} (h:a+n<b):ZZ (Yu f a b n) (a+n) (b+n)=Yu f a b (n+1):=by
 funext t
 unfold ZZ Yu
 by_cases h1:t=a+n
 ·subst h1
  rw[if_pos rfl,if_neg (by omega),if_neg (by omega),if_pos (by omega)]
  congr 1;omega
 ·by_cases h2:t=b+n
  ·subst h2
   rw[if_neg h1,if_pos rfl,if_neg (by omega),if_neg (by omega),if_neg (by omega),if_pos (by omega)]
   congr 1;omega
  ·rw[if_neg h1,if_neg h2]
   by_cases h3:a≤t∧t<a+n
   ·rw[if_pos h3,if_pos (by omega)]
   ·rw[if_neg h3,if_neg (show ¬ (a≤t∧t<a+(n+1)) by omega)]
    by_cases h4:b≤t∧t<b+n
    ·rw[if_pos h4,if_pos (by omega)]
    ·rw[if_neg h4,if_neg (by omega)]
def Y4 (f:Nat→α) (a m b:Nat):Nat→α:=fun t=>if a≤t∧t<a+(b - m) then f (t+(m - a)) else if a+(b - m)≤t∧t<b then f (t - (b - m)) else f t
theorem RT (f:Nat→α) {a m b lo hi:Nat} (h1:a≤m) (h2:m≤b) (h3:lo≤a) (h4:b≤hi):Zj lo hi f (Y4 f a m b):=by
 refine ⟨fun t=>if a≤t∧t<a+(b - m) then t+(m - a) else if a+(b - m)≤t∧t<b then t - (b - m) else t,fun t=>if a≤t∧t<m then t+(b - m) else if m≤t∧t<b then t - (m - a) else t,fun i=>?_,fun i=>?_,fun i hi=>?_,fun i=>?_⟩
 ·simp only;(repeat' split) <;> omega
 ·simp only;(repeat' split) <;> omega
 ·simp only;rw[if_neg (by omega),if_neg (by omega)]
 ·unfold Y4;simp only;split
  ·rfl
  ·split <;> rfl
theorem Z02 (f:Nat→α) {m i j:Nat} (hi:i≤m) (hij:j<i):Y4 (Yu f (m - i) m j) (m - (i - j)) m (m+j)=Y4 f (m - i) m (m+j):=by
 funext t
 have e1:m+j - m=j:=by omega
 have e2:m - (m - (i - j))=i - j:=by omega
 have e3:m - (m - i)=i:=by omega
 unfold Y4 Yu
 simp only[e1,e2,e3]
 by_cases c1:t<m - i
 ·rw[if_neg (by omega),if_neg (by omega),if_neg (by omega),if_neg (by omega),if_neg (by omega),if_neg (by omega)]
 ·by_cases c2:t<m - i+j
  ·rw[if_neg (by omega),if_neg (by omega),if_pos (by omega),if_pos (by omega)]
   congr 1;omega
  ·by_cases c3:t<m - i+j+j
   ·rw[if_pos (by omega),if_neg (by omega),if_pos (by omega),if_neg (by omega),if_pos (by omega)]
    congr 1;omega
   ·by_cases c4:t<m+j
    ·rw[if_neg (by omega),if_pos (by omega),if_neg (by omega),if_neg (by omega),if_neg (by omega),if_pos (by omega)]
    ·rw[if_neg (by omega),if_neg (by omega),if_neg (by omega),if_neg (by omega),if_neg (by omega),if_neg (by omega)]
theorem QV (f:Nat→α) {m i j:Nat} (hi:i≤m) (hij:i<j):Y4 (Yu f (m - i) (m+j - i) i) (m - i) m (m+(j - i))=Y4 f (m - i) m (m+j):=by
 funext t
 have e1:m+(j - i) - m=j - i:=by omega
 have e2:m - (m - i)=i:=by omega
 have e3:m+j - m=j:=by omega
 unfold Y4 Yu
 simp only[e1,e2,e3]
 by_cases c1:t<m - i
 ·rw[if_neg (by omega),if_neg (by omega),if_neg (by omega),if_neg (by omega),if_neg (by omega),if_neg (by omega)]
 ·by_cases c2:t<m - i+(j - i)
  ·rw[if_pos (by omega),if_neg (by omega),if_neg (by omega),if_pos (by omega)]
  ·by_cases c3:t<m+(j - i)
   ·rw[if_neg (by omega),if_pos (by omega),if_pos (by omega),if_pos (by omega)]
    congr 1;omega
   ·by_cases c4:t<m+j
    ·rw[if_neg (by omega),if_neg (by omega),if_neg (by omega),if_pos (by omega),if_neg (by omega),if_pos (by omega)]
     congr 1;omega
    ·rw[if_neg (by omega),if_neg (by omega),if_neg (by omega),if_neg (by omega),if_neg (by omega),if_neg (by omega)]
theorem Z01 (f:Nat→α) {m i:Nat} (hi:i≤m):Yu f (m - i) m i=Y4 f (m - i) m (m+i):=by
 funext t
 have e1:m+i - m=i:=by omega
 have e2:m - (m - i)=i:=by omega
 unfold Y4 Yu
 simp only[e1,e2]
 by_cases c1:t<m - i
 ·rw[if_neg (by omega),if_neg (by omega),if_neg (by omega),if_neg (by omega)]
 ·by_cases c2:t<m
  ·rw[if_pos (by omega),if_pos (by omega)]
   congr 1;omega
  ·by_cases c3:t<m+i
   ·rw[if_neg (by omega),if_pos (by omega),if_neg (by omega),if_pos (by omega)]
    congr 1;omega
   ·rw[if_neg (by omega),if_neg (by omega),if_neg (by omega),if_neg (by omega)]
end
end Go.Proofs.YtlgipkemoldckaaGreatDoor
