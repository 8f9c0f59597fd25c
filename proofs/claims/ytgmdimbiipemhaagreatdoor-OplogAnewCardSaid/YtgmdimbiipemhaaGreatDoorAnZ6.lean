/- OplogAnew, part 6 of what the proof leans on (made short by a program). -/
import Derived.RangeFuncNested
import Derived.Test.YtgmdimbiipemhaaGreatDoorAnZ3
import Derived.Laws.EntriesVeiled
set_option linter.unusedSimpArgs false
set_option linter.unusedVariables false
set_option linter.unusedSectionVars false
set_option maxRecDepth 20000
set_option maxHeartbeats 30000000
namespace Go.Proofs.YtgmdimbiipemhaaGreatDoor
open Go.RowKit
def Z4i (R:Nat→Prop) (J:World→Prop) (W:World):Exit→Act→World→Prop
 | .normal,_,W'=>J W'∧Ext R W W'
 | .ret,_,_=>False
 | .exit _,_,_=>False
 | .goto _,_,_=>False
 | .panic _,_,_=>False
 | .outgrown,_,_=>False
theorem YW (w:World) (l:Nat) (o:Obj):Ext (·=l) w (w.putObj l o) :=
 ⟨rfl,rfl,rfl,by simp[World.putObj],fun k hk hn=>World.putObj_heap_other (by omega)⟩
def Z1N {U:Type} (P:Program) (n gf:Nat) (lb:Array Value) (encs:U→Array Value) (R:Nat→Prop) (xs:List U) (w:World):Prop :=
 ∀ (l:Nat) (I:List U→World→Prop) (W:World),w.heap.size<l→Below w.heap.size w W→(∀ pre W W',I pre W→Ext (fun _=>False) W W'→I pre W') →
  (∀ pre x W1,I pre W1→pre++[x] <+: xs→YieldAt Fence.wide (n - 1) P l (encs x) W1 fun e W'=>e=.returned (.bool true)∧I (pre++[x]) W'∧Ext (fun k=>k=l∨R k) W1 W')→I [] W →
  CallsIn Fence.wide n P gf (#[.func (.yield l) #[] #[]]++lb) W fun e W'=>(∃ v,e=.returned v)∧I xs W'
section
variable {P:Program} {l n:Nat} {ops:Array Oper} {Q:Exit→Act→World→Prop}
theorem Z3Q {o:Oper} {a:Act} {K:Act→World→Prop} {r:Result Next} (h:o.upon P a K Q r):o.uponIn (Fence.wide.inRound l) n P a K Q r:=by
 have hd:(Fence.wide.inRound l).depth.isSome=true→1≤n:=fun h0=>by simp[Fence.wide] at h0
 cases r with
 | ok x w' =>
  cases x with
  | value v=>exact h
  | skip=>exact h
  | defer d=>exact h
  | enter f args=>exact ⟨hd,trivial,fun cs _=>let ⟨e,w',fr,r,s,x⟩:=h cs;⟨e,w',fr,by cases e <;> exact r,comesIn_wide.2 s,x⟩⟩
  | row row args=>exact ⟨hd,fun c cs _=>let ⟨v,w',r,s⟩:=h c cs;⟨v,w',r,stepsIn_wide.2 s⟩⟩
  | _=>exact (show False from h).elim
 | halt x w'=>cases x <;> first|exact h|exact (show False from h).elim
def RJ (ops:Array Oper):Bool:=ops.all fun o=>match o.op with
 | .defer _=>false
 | _=>true
theorem Z3i (h:RJ ops=true) {i:Nat} {o:Oper} (ho:ops[i]?=some o):∀ c,o.op≠.defer c:=by
 intro c hc
 obtain ⟨hi,rfl⟩:=Array.getElem?_eq_some_iff.1 ho
 have:=(Array.all_eq_true.1 h) i hi
 rw[hc] at this
 cases this
theorem Z3L (hd:RJ ops=true) (hQ:¬ LetsOut Q) {i:Nat} {K:Act→World→Prop} {a:Act} {w:World} (h:wpOp P ops Q i K a w):wpOpIn (Fence.wide.inRound l) n P ops Q i K a w:=by
 unfold wpOp at h
 unfold wpOpIn
 cases ho:ops[i]? with
 | none=>rw[ho] at h;exact h
 | some o =>
  rw[ho] at h
  dsimp only at h ⊢
  split at h
  ·rename_i hw
   rw[if_pos hw]
   rcases h with h|h
   ·refine ⟨fun f _=>trivial,?_⟩
    rw[Oper.semAt_eq _ _ _ (Z3i hd ho)]
    exact Z3Q h
   ·exact absurd h.2 hQ
  ·rename_i hw
   rw[if_neg hw]
   exact ⟨fun f _=>trivial,h⟩
theorem R0 {md:Region.Mode} (hd:RJ ops=true) (hQ:¬ LetsOut Q):∀ (fuel:Nat) (listed:Array Bool) (a:Act) (w:World),wpAny P md ops Q fuel listed a w→wpAnyIn (Fence.wide.inRound l) n P md ops Q fuel listed a w
 | 0,_,_,_,h=>h
 | fuel+1,_,_,_,h=>⟨h.1,fun i hi=>wpOpIn_mono (fun a w=>R0 hd hQ fuel _ a w) (Z3L hd hQ (h.2 i hi))⟩
theorem Vt {id:Nat} {a:Act} {w:World} (S:World→Prop) (Z:Nat→Bool) (hm:P.follows .mixedOrders=true) (hd:RJ ops=true) (hQ:¬ LetsOut Q)
  (h:Y6 P .any ops Q S Z ops.size (Array.replicate ops.size false) a w.drew):(Code.region id ops true).wpIn (Fence.wide.inRound l) n P Q a w :=
 wpIn_region_any hm (R0 hd hQ _ _ _ _ (Sg _ _ _ _ h))
end
def So {U:Type} (P:Program) (n gf:Nat) (lb:Array Value) (encs:U→Array Value) (R Rs:Nat→Prop) (xs:List U) (w:World):Prop :=
 ∀ (l:Nat) (I:List U→World→Prop) (W:World),w.heap.size<l→Below w.heap.size w W→(∀ pre W W',I pre W→Ext Rs W W'→I pre W') →
  (∀ pre x W1,I pre W1→pre++[x] <+: xs→YieldAt Fence.wide (n - 1) P l (encs x) W1 fun e W'=>e=.returned (.bool true)∧I (pre++[x]) W'∧Ext (fun k=>k=l∨R k) W1 W')→I [] W →
  CallsIn Fence.wide n P gf (#[.func (.yield l) #[] #[]]++lb) W fun e W'=>(∃ v,e=.returned v)∧I xs W'
theorem Z0p {U:Type} {P:Program} {n:Nat} (h1:1≤n) {g:Operand} {ps:Array Tmp} {assign body:Code} {Q:Exit→Act→World→Prop} {a:Act} {w:World} {gf:Nat} {lb:Array Value}
  (hg:a.eval g=.func (.func gf) #[] lb) (eg:∀ args w,(callFunc gf args).run P w=.ok (.enter gf args) w)
  (encs:U→Array Value) (hps:∀ x,(encs x).size=ps.size) (R Rs:Nat→Prop) (hR:∀ k,R k→k≠w.heap.size∧k≠w.heap.size+1) (hRs:∀ k,Rs k→k≠w.heap.size∧k≠w.heap.size+1) (xs:List U)
  (J:List U→World→Prop) (hJ:∀ pre W W',J pre W→Ext (fun k=>k=w.heap.size∨k=w.heap.size+1∨Rs k) W W'→J pre W')
  (hseq:So P (n - 1) gf lb encs R Rs xs w)
  (h00:J [] w)
  (hround:∀ (l:Nat) (pre:List U) (x:U) (W:World),J pre W→pre++[x] <+: xs→w.heap.size+1<W.heap.size →
   assign.wpIn (Fence.wide.inRound l) (n - 1 - 1) P (Exit.then (fun a₁ W₁=>Ext (fun _=>False) W W₁∧J pre W₁∧∀ W₂,J pre W₂→Ext (fun k=>k=w.heap.size+1) W₁ W₂→body.wpIn (Fence.wide.inRound l) (n - 1 - 1) P (Z4i R (J (pre++[x])) W₂) a₁ W₂) (fun _ _ _=>False))
    { tmps:=(ps.zip (encs x)).foldl (fun t (p,v)=>t.setIfInBounds p v) a.tmps,defers:=[] } W)
  (hdone:∀ W,J xs W→W.heap[w.heap.size]?=some (.deferred (some []))→Q .normal { a with defers:={ target:=.collected w.heap.size,args:=#[] } :: a.defers } W) :
  (Code.rangeFunc g ps assign body).wpIn Fence.wide n P Q a w:=by
 refine wpIn_rangeFunc ?_
 intro fn hfn
 obtain ⟨rec,hrec⟩:∃ rec:LoopState→Option Code→Loop,rec=fun st pe=>{ state:=st,pending:=pe,fn,tmps:=a.tmps,params:=ps,assign,body,defers:=w.heap.size }:=⟨_,rfl⟩
 obtain ⟨W1,hW1⟩:=Je ((w.alloc (.deferred (some []))).alloc (.loop (rec .ready none)))
 have hL1:W1.heap[w.heap.size+1]?=some (.loop (rec .ready none)):=by
  rw[←hW1];have:=World.alloc_heap_new (w.alloc (.deferred (some []))) (.loop (rec .ready none));rwa [World.size_alloc] at this
 have hK1:W1.heap[w.heap.size]?=some (.deferred (some [])):=by
  rw[←hW1];exact (Below.heap_alloc _ _ _ (by simp)).trans (World.alloc_heap_new w _)
 have hb1:Below w.heap.size w W1:=by
  rw[←hW1];exact (((Below.refl _ w).alloc (Nat.le_refl _) _).alloc (by simp) _)
 have hJ1:J [] W1:=hJ _ _ _ h00 (Ext.of_below hb1)
 refine ⟨w.heap.size+1,[{ target:=.collected w.heap.size,args:=#[] }],W1,{ target:=.fn (.func gf) lb,args:=#[.func (.yield (w.heap.size+1)) #[] #[]] },W1,gf,
  #[.func (.yield (w.heap.size+1)) #[] #[]]++lb,W1,?_,?_,?_,?_,fun _=>h1,?_⟩
 ·rw[←hW1,hrec];exact run_enterLoop_outer _ _ _ _ _
 ·simp only[resolve,hg]
  simp[go_sem]
 ·intro f' hf';trivial
 ·simp[invoke,go_sem,eg]
 ·refine (hseq (w.heap.size+1)
   (fun pre W=>J pre W∧W.heap[w.heap.size+1]?=some (.loop (rec .ready none))∧W.heap[w.heap.size]?=some (.deferred (some [])))
   W1 (Nat.lt_succ_self _) hb1
   (fun pre A B hs hx=>⟨hJ _ _ _ hs.1 (hx.mono (fun _ _ f=>.inr (.inr f))),(hx.block _ (Array.getElem?_eq_some_iff.1 hs.2.1).1 (fun e=>(hRs _ e).2 rfl)).trans hs.2.1,(hx.block _ (Array.getElem?_eq_some_iff.1 hs.2.2).1 (fun e=>(hRs _ e).1 rfl)).trans hs.2.2⟩)
   ?_ ⟨hJ1,hL1,hK1⟩).mono ?_
  ·rintro pre x W ⟨hi,hl,hk⟩ hpx
   have hlt:w.heap.size+1<W.heap.size:=(Array.getElem?_eq_some_iff.1 hl).1
   have hy:=run_yield (P:=P) (args:=encs x) hl (by rw[hrec];exact hps x)
   rw[hrec] at hy
   refine ⟨fn,_,assign,body,hy,roundIn_of_wpIn hfn (wpIn_mono (hround _ pre x W hi hpx hlt) ?_)⟩
   rintro e a1 W' hp
   cases e with
   | normal =>
    obtain ⟨hxa,hja,hbody⟩:=hp
    have hla:=(hxa.block _ hlt id).trans hl
    have hka:=(hxa.block _ (by omega) id).trans hk
    have hlt':w.heap.size+1<W'.heap.size:=(Array.getElem?_eq_some_iff.1 hla).1
    refine ⟨_,run_beginRound hla (by rw[hrec]),?_⟩
    have hl2:(W'.putObj (w.heap.size+1) (.loop { rec .ready none with state:=.busy })).heap[w.heap.size+1]?=some (.loop { rec .ready none with state:=.busy }):=World.putObj_heap_same hlt'
    have hk2:(W'.putObj (w.heap.size+1) (.loop { rec .ready none with state:=.busy })).heap[w.heap.size]?=some (.deferred (some [])):=(World.putObj_heap_other (by omega)).trans hka
    have hx2:Ext (fun k=>k=w.heap.size+1) W' (W'.putObj (w.heap.size+1) (.loop { rec .ready none with state:=.busy })):=YW _ _ _
    have hmono:∀ {A B:World},Ext (fun k=>k=w.heap.size+1) A B→Ext (fun k=>k=w.heap.size∨k=w.heap.size+1∨Rs k) A B:=fun hx=>hx.mono (fun k _ hk=>.inr (.inl hk))
    refine wpIn_mono (hbody _ (hJ _ _ _ hja (hmono hx2)) hx2) ?_
    have s1:=(Array.getElem?_eq_some_iff.1 hl2).1
    have s0:=(Array.getElem?_eq_some_iff.1 hk2).1
    have nR1:¬ R (w.heap.size+1):=fun h=>(hR _ h).2 rfl
    have nR0:¬ R w.heap.size:=fun h=>(hR _ h).1 rfl
    rintro e a3 W3 hp
    cases e with
    | normal =>
     obtain ⟨hj3,hx3⟩:=hp
     have hl3:=(hx3.block _ s1 nR1).trans hl2
     have hk3:=(hx3.block _ s0 nR0).trans hk2
     have hr:=run_endRound (P:=P) none hl3
     rw[hrec] at hr
     refine ⟨_,_,hr,rfl,⟨hJ _ _ _ hj3 (hmono (YW _ _ _)),?_,(World.putObj_heap_other (by omega)).trans hk3⟩,?_⟩
     ·rw[hrec];exact World.putObj_heap_same (Array.getElem?_eq_some_iff.1 hl3).1
     ·have e1:Ext (fun k=>k=w.heap.size+1∨R k) W W':=hxa.mono (fun _ _ f=>f.elim)
      have e2:Ext (fun k=>k=w.heap.size+1∨R k) W' (W'.putObj (w.heap.size+1) (.loop { rec .ready none with state:=.busy })):=hx2.mono (fun _ _ h=>.inl h)
      have e3:Ext (fun k=>k=w.heap.size+1∨R k) (W'.putObj (w.heap.size+1) (.loop { rec .ready none with state:=.busy })) W3:=hx3.mono (fun _ _ h=>.inr h)
      exact ((e1.trans e2).trans e3).trans ((YW _ _ _).mono (fun _ _ h=>.inl h))
    | ret=>exact hp.elim
    | exit id=>exact hp.elim
    | goto t=>exact hp.elim
    | panic ch=>exact hp.elim
    | outgrown=>exact hp.elim
   | ret=>exact hp.elim
   | exit id=>exact hp.elim
   | goto t=>exact hp.elim
   | panic ch=>exact hp.elim
   | outgrown=>exact hp.elim
  ·rintro e W2 ⟨⟨v,rfl⟩,hi,hl,hk⟩
   refine ⟨none,_,by have:=run_endLoop (P:=P) hl (by rw[hrec];simp);rw[hrec] at this;exact this,hdone _ (hJ _ _ _ hi ?_) ((World.putObj_heap_other (by omega)).trans hk)⟩
   have hx:=YW W2 (w.heap.size+1) (.loop { (rec .ready none) with state:=.exhausted })
   rw[hrec] at hx
   exact hx.mono (fun k _ hk=>.inr (.inl hk))
end Go.Proofs.YtgmdimbiipemhaaGreatDoor
namespace Go.Proofs.YtgmdimbiipemhaaGreatDoor
section
variable {α:Type} [DecidableEq α]
def ZY:List α→List (Nat × α)
 | []=>[]
 | x :: l=>(Za x l+1,x) :: ZY (l.drop (Za x l))
termination_by l=>l.length
decreasing_by simp;omega
theorem Z1Y:ZY ([]:List α)=[]:=by rw[ZY]
theorem Z21 {x:α} {l:List α} (h:l[0]?=some x):1≤Za x l:=by
 cases l with
 | nil=>simp at h
 | cons y l=>simp at h;subst h;rw[Za,if_pos rfl];omega
theorem Uv {x:α} {l:List α} (h:l[0]?=some x):ZY l=(Za x l,x) :: ZY (l.drop (Za x l)):=by
 cases l with
 | nil=>simp at h
 | cons y l =>
  simp at h
  subst h
  rw[ZY,Za,if_pos rfl,List.drop_succ_cons]
theorem Z1G:∀ (n:Nat) (l:List α),l.length=n→∀ p∈ZY l,1≤p.1∧p.1≤n∧p.2∈l:=by
 intro n
 induction n using Nat.strongRecOn with
 | ind n ih =>
  intro l hl p hp
  cases l with
  | nil=>rw[ZY] at hp;simp at hp
  | cons x l =>
   rw[ZY] at hp
   have hle:=XC x l
   rw[List.length_cons] at hl
   rcases List.mem_cons.1 hp with rfl|hp
   ·exact ⟨by simp,by simp;omega,by simp⟩
   ·obtain ⟨h1,h2,h3⟩:=ih (l.drop (Za x l)).length (by rw[List.length_drop];omega) _ rfl p hp
    rw[List.length_drop] at h2
    exact ⟨h1,by omega,List.mem_cons_of_mem _ (List.mem_of_mem_drop h3)⟩
end
def Uq (ps:List (Nat × Int)):List UInt8:=ps.flatMap fun p=>Z5 p.1++Z5 (Yf p.2)
theorem Z1A (ps:List (Nat × Int)) (p:Nat × Int):Uq (ps++[p])=(Uq ps++Z5 p.1)++Z5 (Yf p.2):=by simp[Uq]
theorem RS:∀ (n:Nat) (l:List Int),l.length=n→Zc l=Uq (ZY l):=by
 intro n
 induction n using Nat.strongRecOn with
 | ind n ih =>
  intro l hl
  cases l with
  | nil=>rw[Zc,ZY];rfl
  | cons x l =>
   rw[List.length_cons] at hl
   rw[Zc,ZY,ih (l.drop (Za x l)).length (by rw[List.length_drop];omega) _ rfl]
   simp[Uq]
theorem Z84 {ps qs:List (Nat × Int)} (h:ps <+: qs):(Uq ps).length≤(Uq qs).length:=by
 obtain ⟨t,rfl⟩:=h
 unfold Uq
 rw[List.flatMap_append,List.length_append]
 omega
def Xy (ps:List (Nat × Bool)):List UInt8:=(match ps.head? with
 | some (_,true)=>[0]
 | _=>[])++ps.flatMap fun p=>Z5 p.1
theorem Z7M {ps:List (Nat × Bool)} (h:ps≠[]):Xy ps≠[]:=by
 cases ps with
 | nil=>exact absurd rfl h
 | cons p ps =>
  unfold Xy
  intro e
  have:=congrArg List.length e
  rw[List.length_append,List.flatMap_cons,List.length_append,List.length_nil] at this
  have:=List.length_pos_iff.2 (Wl p.1)
  omega
theorem Rn (ps:List (Nat × Bool)) (p:Nat × Bool):Xy (ps++[p])=(if p.2=true∧ps=[] then Xy ps++[0] else Xy ps)++Z5 p.1:=by
 cases ps with
 | nil =>
  obtain ⟨k,v⟩:=p
  cases v <;> simp[Xy]
 | cons q ps=>simp[Xy]
theorem Z7Y {ps qs:List (Nat × Bool)} (h:ps <+: qs):(Xy ps).length≤(Xy qs).length:=by
 obtain ⟨t,rfl⟩:=h
 cases ps with
 | nil=>simp[Xy]
 | cons p ps=>simp[Xy]
theorem Ro:∀ (n:Nat) (v:Bool) (l:List Bool),l.length=n→(l=[]∨l.head?=some v)→ZO v l=(ZY l).flatMap fun p=>Z5 p.1:=by
 intro n
 induction n using Nat.strongRecOn with
 | ind n ih =>
  intro v l hl h
  cases l with
  | nil=>rw[Xt,ZY];rfl
  | cons x l =>
   have hx:x=v:=by simpa using h
   subst hx
   rw[List.length_cons] at hl
   have e:Za x (x :: l)=Za x l+1:=by rw[Za,if_pos rfl]
   rw[YY (by simp),e,List.drop_succ_cons,ZY,List.flatMap_cons,ih (l.drop (Za x l)).length (by rw[List.length_drop];omega) (!x) _ rfl (UI (XU x l))]
theorem VS (l:List Bool):Yu l=Xy (ZY l):=by
 unfold Yu
 cases l with
 | nil=>rw[Xt,ZY];rfl
 | cons x l =>
  cases x with
  | false =>
   rw[Ro _ false _ rfl (.inr rfl)]
   rw[ZY]
   rfl
  | true =>
   have e:Za false (true :: l)=0:=by rw[Za,if_neg (by decide)]
   rw[YY (by simp),e,List.drop_zero,Bool.not_false,Ro _ true _ rfl (.inr rfl),ZY,XL (by omega)]
   rfl
end Go.Proofs.YtgmdimbiipemhaaGreatDoor
namespace Go.Proofs.YtgmdimbiipemhaaGreatDoor
open Go.RowKit Go.Deep
attribute [local go_sem] Oper.semAt_some
theorem Z3v (va:Option Addr) (m vc:Nat) (w:World):Calls Tryz.prog 147 #[.slice va m vc] w
  fun e w'=>e=.returned (.func (.func 178) #[] #[.pointer (some ⟨w.heap.size,0,none⟩)])∧w'=w.alloc (.cells #[.slice va m vc] 100):=by
 go_enter Tryz.func147,Tryz.ntmps147
 go_wp2_with fail
 go_ret
 exact ⟨rfl,rfl⟩
theorem Z15 (n:Nat) (hn:1≤n) (Bs:Nat) (v:Value) (l:List Int) (R:Nat→Prop) (w:World) (hv:Z0 Zh 1 w v l) (hB:w.heap[Bs]?=some (.cells #[v] 100 (0,0))) (hRB:¬ R Bs) (hRv:l≠[]→∀ b o m c,v=.slice (some ⟨b,o,none⟩) m c→¬ R b∧b<w.heap.size∧b≠Bs) :
  So Tryz.prog n 178 #[.pointer (some ⟨Bs,0,none⟩)] (fun x:Nat × Int=>#[.int .i64 x.1,.int .i64 x.2]) R (·=Bs) (ZY l) w:=by
 intro lb I W hl hb hI hY h0
 obtain ⟨va,vc,rfl,hcap,hmax,hcs⟩:=id hv
 unfold maxLen at hmax
 have hBl:=(Array.getElem?_eq_some_iff.1 hB).1
 have HI:=Lib.hid hI
 have HY:=Lib.hid hY
 have HB0:W.heap[Bs]?=some (.cells #[.slice va l.length vc] 100 (0,0)):=(hb.block _ hBl).trans hB
 have hS0:Z0 Zh 1 W (.slice va l.length vc) l:=hv.below hb
 have HV:Hid (l≠[]→∀ ad,va=some ad→¬ R ad.block∧ad.block<w.heap.size∧ad.block≠Bs):=Jh (fun hne ad e=>by
  obtain ⟨b,o,e2,_⟩:=hcs hne
  rw[e] at e2
  cases e2
  exact hRv hne b o _ _ (by rw[e]))
 have HF:Hid (W.heap[Bs]?=some (.cells #[.slice va l.length vc] 100 (0,0))∧Z0 Zh 1 W (.slice va l.length vc) l∧I [] W):=Lib.hid ⟨HB0,hS0,h0⟩
 clear hv hcs hI hY hRv hB hS0 HB0 h0 hb
 refine callsIn_of_wp Tryz.func178 rfl trivial ?_ rfl
 simp only[Tryz.ntmps178,List.size_toArray,List.length_cons,List.length_nil,Nat.reduceAdd,Nat.reduceSub,Array.replicate_succ,Array.replicate_zero,List.push_toArray,List.append_toArray,List.nil_append,List.cons_append]
 refine wpIn_wide.2 ?_
 go_wp2_with fail
 go_loopg [3] l.length (fun g nv wr=>∃ (r:List Int) (pre:List (Nat × Int)) (ra:Option Addr) (rc:Nat),g=r.length∧r.length≤l.length∧r.length≤rc∧rc≤2 ^ 63 - 1∧Hid (ZY l=pre++ZY r)∧Hid (r≠[]→∀ ad,ra=some ad→¬ R ad.block∧ad.block<w.heap.size∧ad.block≠Bs)∧Hid (wr.heap[Bs]?=some (.cells #[.slice ra r.length rc] 100 (0,0))∧Z0 Zh 1 wr (.slice ra r.length rc) r∧I pre wr))
 case atStart=>exact ⟨l,[],va,vc,rfl,Nat.le_refl _,hcap,hmax,Lib.hid rfl,HV,HF⟩
 case round =>
  clear HV HF hcap hmax
  obtain ⟨r,pre,ra,rc,hg,hrl,hcap,hmax,HP,HV,HF⟩:=hrel
  have HG:=Lib.hid hg
  clear hg
  have b0:=cell_of_one HF.out.1
  by_cases hr0:r.length=0
  ·obtain rfl:r=[]:=List.eq_nil_of_length_eq_zero hr0
   have hr1:¬ (0:Int)<0:=by omega
   have HE:Hid (ZY l=pre):=Jh (by rw[HP.out,Z1Y,List.append_nil])
   go_wp2_with fail
   go_end0
   rw[HE.out]
   exact ⟨⟨_,rfl⟩,HF.out.2.2⟩
  ·have hr1:(0:Int)<(r.length:Int):=by omega
   obtain ⟨x0,hx0⟩:∃ x,r[0]?=some x:=⟨_,List.getElem?_eq_getElem (by omega)⟩
   have HX0:=Lib.hid hx0
   have hrne:r≠[]:=fun e=>hr0 (by rw[e];rfl)
   obtain ⟨bb,oo,rfl,-⟩:=HF.out.2.1.at1 hx0 rfl
   have HVB:=Jh (HV.out hrne _ rfl)
   have HRN:=Lib.hid hrne
   clear hx0 hrne hr0
   go_wp2_with fail
   clear b0
   go_loopg [3] (r.length - 1) (fun g nv wx=>∃ k:Nat,g=r.length - k∧nv=.int .i64 k∧1≤k∧k≤r.length∧Hid (k≤Za x0 r)∧Hid (wx.heap[Bs]?=some (.cells #[.slice (some ⟨bb,oo,none⟩) r.length rc] 100 (0,0))∧Z0 Zh 1 wx (.slice (some ⟨bb,oo,none⟩) r.length rc) r∧I pre wx))
   case atStart=>exact ⟨1,rfl,rfl,Nat.le_refl _,by omega,Jh (Z21 HX0.out),HF⟩
   case round =>
    clear HF
    obtain ⟨k,hg2,rfl,hk1,hkr,HC,HF⟩:=hrel
    have HG2:=Lib.hid hg2
    clear hg2
    have hB:=HF.out.1
    have c1:wr.cell? ⟨bb,oo,none⟩=some (.int .i64 x0):=by
     obtain ⟨_,_,e,c⟩:=HF.out.2.1.at1 HX0.out rfl
     cases e
     exact c
    have HF1:Hid (wr.drew.heap[Bs]?=some (.cells #[.slice (some ⟨bb,oo,none⟩) r.length rc] 100 (0,0))∧Z0 Zh 1 wr.drew (.slice (some ⟨bb,oo,none⟩) r.length rc) r∧I pre wr.drew):=Lib.hid ⟨HF.out.1,HF.out.2.1,HI.out _ _ _ HF.out.2.2 (Ext.refl _ _).drew⟩
    have b0:=cell_of_one hB
    by_cases hk:k<r.length
    ·have hki:(k:Int)<(r.length:Int):=by omega
     obtain ⟨x,hx⟩:∃ x,r[k]?=some x:=⟨_,List.getElem?_eq_getElem hk⟩
     have c0:wr.cell? ⟨bb,oo+k,none⟩=some (.int .i64 x):=by
      obtain ⟨_,_,e,c⟩:=HF.out.2.1.at1 hx rfl
      cases e
      exact c
     have HX:=Jh (Ru (x:=x0) (l:=r) (i:=0) (Nat.zero_le k) (by simpa using HC.out) hx)
     simp only[List.drop_zero,Nat.sub_zero] at HX
     go_upto_region 2 with fail
     have hS0:(fun W:World=>W.cell? ⟨Bs,0,none⟩=some (.slice (some ⟨bb,oo,none⟩) r.length rc)∧W.cell? ⟨bb,oo+k,none⟩=some (.int .i64 x)∧W.cell? ⟨bb,oo,none⟩=some (.int .i64 x0)) wr.drew:=⟨b0,c0,c1⟩
     clear b0 c0 c1 hB HF hx
     refine Z6 (fun W:World=>W.cell? ⟨Bs,0,none⟩=some (.slice (some ⟨bb,oo,none⟩) r.length rc)∧W.cell? ⟨bb,oo+k,none⟩=some (.int .i64 x)∧W.cell? ⟨bb,oo,none⟩=some (.int .i64 x0)) (fun _=>false) (by kernel_rfl) ?_
     generalize wr.drew=W1 at hS0 HF1 ⊢
     refine J3 0 7 _ hS0 ?_
     try simp only[Ja]
     refine J3 1 8 (.slice (some ⟨bb,oo,none⟩) r.length rc) hS0 ?_
     try simp only[Ja]
     refine J3 2 9 (.int .i64 r.length) hS0 ?_
     try simp only[Ja]
     refine J3 3 10 (.bool true) hS0 ?_
     try simp only[Ja]
     refine J3 4 11 (.bool true) hS0 ?_
     try simp only[Ja]
     refine J3 5 12 (.slice (some ⟨bb,oo,none⟩) r.length rc) hS0 ?_
     try simp only[Ja]
     refine J3 6 13 _ hS0 ?_
     try simp only[Ja]
     refine J3 7 14 (.pointer (some ⟨bb,oo+k,none⟩)) hS0 ?_
     try simp only[Ja]
     refine J3 8 15 (.int .i64 x) hS0 ?_
     try simp only[Ja]
     refine J3 9 16 (.slice (some ⟨bb,oo,none⟩) r.length rc) hS0 ?_
     try simp only[Ja]
     refine J3 10 17 (.pointer (some ⟨bb,oo,none⟩)) hS0 ?_
     try simp only[Ja]
     refine J3 11 18 (.int .i64 x0) hS0 ?_
     try simp only[Ja]
     by_cases hxx:x=x0
     ·have hC2:=HX.out.1 hxx
      have hs1:(x == x0)=true:=by simpa using hxx
      have HC2:=Lib.hid hC2
      clear HX hC2 HC hxx
      refine J3 12 19 (.bool true) hS0 ?_
      try simp only[Ja]
      refine J3 13 20 (.bool true) hS0 ?_
      try simp only[Ja]
      refine Z3 (by kernel_rfl) ?_ _
      clear hS0
      go_wp2_with fail
      go_roundg (r.length - (k+1))
      case measure=>rw[HG2.out];omega
      case rel=>exact ⟨k+1,rfl,by simp,by omega,by omega,HC2,HF1⟩
     ·have HM:=Jh (HX.out.2 hxx)
      have hs1:(x == x0)=false:=by simpa using hxx
      clear HX HC hxx
      refine J3 12 19 (.bool false) hS0 ?_
      try simp only[Ja]
      refine J3 13 20 (.bool false) hS0 ?_
      try simp only[Ja]
      refine Z3 (by kernel_rfl) ?_ _
      clear hS0
      have HRL:=Uv HX0.out
      rw[←HM.out] at HRL
      have HP2:Hid (ZY l=(pre++[(k,x0)])++ZY (r.drop k)):=Jh (by rw[HP.out,HRL];simp)
      have hpx:pre++[(k,x0)] <+: ZY l:=⟨_,HP2.out.symm⟩
      obtain ⟨fn,tmps,assign,body,hy,hR⟩:=HY.out pre (k,x0) W1 HF1.out.2.2 hpx
      dsimp only at hy
      have b1:=cell_of_one HF1.out.1
      have c1:W1.cell? ⟨bb,oo,none⟩=some (.int .i64 x0):=by
       obtain ⟨_,_,e,c⟩:=HF1.out.2.1.at1 HX0.out rfl
       cases e
       exact c
      obtain ⟨a2,c2,hsl,hS2,hA2⟩:=ZE (P:=Tryz.prog) (ea:=Zh) Tryz.underlying100 Z2t (some ⟨bb,oo,none⟩) r.length rc k hcap hkr
      have HSL:=Lib.hid hsl
      have HS2:=Lib.hid hS2
      have HA2:=Lib.hid hA2
      have HCP:Hid (r.length - k≤c2∧c2≤2 ^ 63 - 1):=Jh (by
       obtain ⟨a3,c3,e3,h3,h4,-⟩:=hS2 W1 r rfl HF1.out.2.1
       have e6:c2=c3:=by injection e3
       rw[e6]
       rw[List.length_drop] at h3
       unfold maxLen at h4
       exact ⟨h3,h4⟩)
      clear hsl hS2 hA2 HRL hpx
      go_upto_region 4 with fail
      refine (wpIn_wide (n:=n)).1 ?_
      gi_wp2
      refine hR.mono ?_
      rintro e W3 ⟨rfl,hI3,hx3⟩
      have hBs:¬ (Bs=lb∨R Bs):=fun h=>by
       rcases h with h|h
       ·omega
       ·exact hRB h
      have hbb:¬ (bb=lb∨R bb):=fun h=>by
       have h5:=HVB.out
       rcases h with h|h
       ·omega
       ·exact h5.1 h
      have hB3:W3.heap[Bs]?=some (.cells #[.slice (some ⟨bb,oo,none⟩) r.length rc] 100 (0,0)):=(hx3.block _ (Array.getElem?_eq_some_iff.1 HF1.out.1).1 hBs).trans HF1.out.1
      have hS3:Z0 Zh 1 W3 (.slice (some ⟨bb,oo,none⟩) r.length rc) r:=HF1.out.2.1.of1 (fun o u h=>hx3.keep h hbb)
      have HF4:Hid ((W3.setCell ⟨Bs,0,none⟩ (.slice a2 (r.length - k) c2)).heap[Bs]?=some (.cells #[.slice a2 (r.drop k).length c2] 100 (0,0))∧Z0 Zh 1 (W3.setCell ⟨Bs,0,none⟩ (.slice a2 (r.length - k) c2)) (.slice a2 (r.drop k).length c2) (r.drop k)∧I (pre++[(k,x0)]) (W3.setCell ⟨Bs,0,none⟩ (.slice a2 (r.length - k) c2))):=Jh (by
       have hBsz:=(Array.getElem?_eq_some_iff.1 hB3).1
       have hXS:=(Ext.refl (·=Bs) W3).setCell (p:=⟨Bs,0,none⟩) (.inr rfl) (.slice a2 (r.length - k) c2)
       have hS4:=hS3.of1 (fun o u h=>hXS.keep h (fun e=>HVB.out.2.2 e))
       rw[List.length_drop]
       refine ⟨?_,HS2.out _ r rfl hS4,HI.out _ _ _ hI3 hXS⟩
       rw[one_setCell hB3])
      have b3:=cell_of_one hB3
      have f3:=free_of_one hB3
      have HV4:Hid (r.drop k≠[]→∀ ad,a2=some ad→¬ R ad.block∧ad.block<w.heap.size∧ad.block≠Bs):=Jh (fun _ ad e=>by
       obtain ⟨ad0,e0,e1⟩:=HA2.out ad e
       cases e0
       rw[e1]
       exact HVB.out)
      have hsl3:=HSL.out
      clear hB3 hS3 hI3 hx3 hBs hbb HF1 b1 c1 hy hR HS2 HA2 HSL
      gi_wp2
      go_wp2_with fail
      generalize W3.setCell ⟨Bs,0,none⟩ (.slice a2 (r.length - k) c2)=W4 at HF4 ⊢
      go_roundg (r.drop k).length
      case measure=>rw[HG.out,List.length_drop];omega
      case rel=>exact ⟨r.drop k,pre++[(k,x0)],a2,c2,rfl,by rw[List.length_drop];omega,by rw[List.length_drop];exact HCP.out.1,HCP.out.2,HP2,HV4,HF4⟩
    ·have hkk:k=r.length:=by omega
     have hki:¬ (k:Int)<(r.length:Int):=by omega
     have HM:Hid (k=Za x0 r):=Jh (by have h1:=Sd (x:=x0) (l:=r) (i:=0) (Nat.zero_le _) (by simpa [hkk] using HC.out);rw[hkk];simpa using h1)
     clear HC hkk hk
     go_upto_region 2 with fail
     have hS0:(fun W:World=>W.cell? ⟨Bs,0,none⟩=some (.slice (some ⟨bb,oo,none⟩) r.length rc)∧True∧True) wr.drew:=⟨b0,trivial,trivial⟩
     clear b0 c1 hB HF
     refine Z6 (fun W:World=>W.cell? ⟨Bs,0,none⟩=some (.slice (some ⟨bb,oo,none⟩) r.length rc)∧True∧True) (fun _=>false) (by kernel_rfl) ?_
     generalize wr.drew=W1 at hS0 HF1 ⊢
     refine J3 0 7 _ hS0 ?_
     try simp only[Ja]
     refine J3 1 8 (.slice (some ⟨bb,oo,none⟩) r.length rc) hS0 ?_
     try simp only[Ja]
     refine J3 2 9 (.int .i64 r.length) hS0 ?_
     try simp only[Ja]
     refine J3 3 10 (.bool false) hS0 ?_
     try simp only[Ja]
     refine J3 4 11 (.bool false) hS0 ?_
     try simp only[Ja]
     refine JO 5 12 rfl rfl hS0 ?_
     try simp only[Ja]
     refine JO 6 13 rfl rfl hS0 ?_
     try simp only[Ja]
     refine JO 7 14 rfl rfl hS0 ?_
     try simp only[Ja]
     refine JO 8 15 rfl rfl hS0 ?_
     try simp only[Ja]
     refine JO 9 16 rfl rfl hS0 ?_
     try simp only[Ja]
     refine JO 10 17 rfl rfl hS0 ?_
     try simp only[Ja]
     refine JO 11 18 rfl rfl hS0 ?_
     try simp only[Ja]
     refine JO 12 19 rfl rfl hS0 ?_
     try simp only[Ja]
     refine J3 13 20 (.bool false) hS0 ?_
     try simp only[Ja]
     refine Z3 (by kernel_rfl) ?_ _
     clear hS0
     have HRL:=Uv HX0.out
     rw[←HM.out] at HRL
     have HP2:Hid (ZY l=(pre++[(k,x0)])++ZY (r.drop k)):=Jh (by rw[HP.out,HRL];simp)
     have hpx:pre++[(k,x0)] <+: ZY l:=⟨_,HP2.out.symm⟩
     obtain ⟨fn,tmps,assign,body,hy,hR⟩:=HY.out pre (k,x0) W1 HF1.out.2.2 hpx
     dsimp only at hy
     have b1:=cell_of_one HF1.out.1
     have c1:W1.cell? ⟨bb,oo,none⟩=some (.int .i64 x0):=by
      obtain ⟨_,_,e,c⟩:=HF1.out.2.1.at1 HX0.out rfl
      cases e
      exact c
     obtain ⟨a2,c2,hsl,hS2,hA2⟩:=ZE (P:=Tryz.prog) (ea:=Zh) Tryz.underlying100 Z2t (some ⟨bb,oo,none⟩) r.length rc k hcap hkr
     have HSL:=Lib.hid hsl
     have HS2:=Lib.hid hS2
     have HA2:=Lib.hid hA2
     have HCP:Hid (r.length - k≤c2∧c2≤2 ^ 63 - 1):=Jh (by
      obtain ⟨a3,c3,e3,h3,h4,-⟩:=hS2 W1 r rfl HF1.out.2.1
      have e6:c2=c3:=by injection e3
      rw[e6]
      rw[List.length_drop] at h3
      unfold maxLen at h4
      exact ⟨h3,h4⟩)
     clear hsl hS2 hA2 HRL hpx
     go_upto_region 4 with fail
     refine (wpIn_wide (n:=n)).1 ?_
     gi_wp2
     refine hR.mono ?_
     rintro e W3 ⟨rfl,hI3,hx3⟩
     have hBs:¬ (Bs=lb∨R Bs):=fun h=>by
      rcases h with h|h
      ·omega
      ·exact hRB h
     have hbb:¬ (bb=lb∨R bb):=fun h=>by
      have h5:=HVB.out
      rcases h with h|h
      ·omega
      ·exact h5.1 h
     have hB3:W3.heap[Bs]?=some (.cells #[.slice (some ⟨bb,oo,none⟩) r.length rc] 100 (0,0)):=(hx3.block _ (Array.getElem?_eq_some_iff.1 HF1.out.1).1 hBs).trans HF1.out.1
     have hS3:Z0 Zh 1 W3 (.slice (some ⟨bb,oo,none⟩) r.length rc) r:=HF1.out.2.1.of1 (fun o u h=>hx3.keep h hbb)
     have HF4:Hid ((W3.setCell ⟨Bs,0,none⟩ (.slice a2 (r.length - k) c2)).heap[Bs]?=some (.cells #[.slice a2 (r.drop k).length c2] 100 (0,0))∧Z0 Zh 1 (W3.setCell ⟨Bs,0,none⟩ (.slice a2 (r.length - k) c2)) (.slice a2 (r.drop k).length c2) (r.drop k)∧I (pre++[(k,x0)]) (W3.setCell ⟨Bs,0,none⟩ (.slice a2 (r.length - k) c2))):=Jh (by
      have hBsz:=(Array.getElem?_eq_some_iff.1 hB3).1
      have hXS:=(Ext.refl (·=Bs) W3).setCell (p:=⟨Bs,0,none⟩) (.inr rfl) (.slice a2 (r.length - k) c2)
      have hS4:=hS3.of1 (fun o u h=>hXS.keep h (fun e=>HVB.out.2.2 e))
      rw[List.length_drop]
      refine ⟨?_,HS2.out _ r rfl hS4,HI.out _ _ _ hI3 hXS⟩
      rw[one_setCell hB3])
     have b3:=cell_of_one hB3
     have f3:=free_of_one hB3
     have HV4:Hid (r.drop k≠[]→∀ ad,a2=some ad→¬ R ad.block∧ad.block<w.heap.size∧ad.block≠Bs):=Jh (fun _ ad e=>by
      obtain ⟨ad0,e0,e1⟩:=HA2.out ad e
      cases e0
      rw[e1]
      exact HVB.out)
     have hsl3:=HSL.out
     clear hB3 hS3 hI3 hx3 hBs hbb HF1 b1 c1 hy hR HS2 HA2 HSL
     gi_wp2
     go_wp2_with fail
     generalize W3.setCell ⟨Bs,0,none⟩ (.slice a2 (r.length - k) c2)=W4 at HF4 ⊢
     go_roundg (r.drop k).length
     case measure=>rw[HG.out,List.length_drop];omega
     case rel=>exact ⟨r.drop k,pre++[(k,x0)],a2,c2,rfl,by rw[List.length_drop];omega,by rw[List.length_drop];exact HCP.out.1,HCP.out.2,HP2,HV4,HF4⟩
end Go.Proofs.YtgmdimbiipemhaaGreatDoor
namespace Go.Proofs.YtgmdimbiipemhaaGreatDoor
open Go.RowKit
attribute [local go_sem] Oper.semAt_some
theorem Ui (v:Value) (l:List Int) (w:World) (h:Z0 Zh 1 w v l) (hn:l.length≤1000000000000) (hin:∀ x∈l,-9223372036854775808≤x∧x≤9223372036854775807):Calls Tryz.prog 95 #[v] w fun e w'=>Xv w (Zc l) e w':=by
 obtain ⟨va,vc,rfl,hcap,hmax,hcs⟩:=id h
 unfold maxLen at hmax
 have HL:=Jh (Uo _ l rfl (by omega) (fun x hx=>VD (hin x hx).1 (hin x hx).2))
 have HIN:=Lib.hid hin
 refine (callsIn_wide (n:=5)).1 ?_
 refine callsIn_of_wp_marks Tryz.func95 rfl trivial ?_ rfl
 simp only[Tryz.ntmps95,List.size_toArray,List.length_cons,List.length_nil,Nat.reduceAdd,Nat.reduceSub,Array.replicate_succ,Array.replicate_zero,List.push_toArray,List.append_toArray,List.nil_append,List.cons_append]
 gi_wp2
 refine ⟨trivial,?_⟩
 refine (callsIn_wide.2 (Z3v va l.length vc _)).mono ?_
 rintro e w' ⟨rfl,rfl⟩
 gi_wp2
 have hB0:Below w.heap.size w ((w.alloc (.cells #[.slice none 0 0] 22)).alloc (.cells #[.slice va l.length vc] 100)):=((Below.refl _ _).alloc (Nat.le_refl _) _).alloc (by simp) _
 have z0:((w.alloc (.cells #[.slice none 0 0] 22)).alloc (.cells #[.slice va l.length vc] 100)).heap.size=w.heap.size+2:=by simp
 have o0:((w.alloc (.cells #[.slice none 0 0] 22)).alloc (.cells #[.slice va l.length vc] 100)).heap[w.heap.size]?=some (.cells #[.slice none 0 0] 22 (0,0)):=by
  rw[Below.heap_alloc _ _ _ (by simp)]
  exact World.alloc_heap_new w _
 have s0:((w.alloc (.cells #[.slice none 0 0] 22)).alloc (.cells #[.slice va l.length vc] 100)).heap[w.heap.size+1]?=some (.cells #[.slice va l.length vc] 100 (0,0)):=by
  have:=World.alloc_heap_new (w.alloc (.cells #[.slice none 0 0] 22)) (.cells #[.slice va l.length vc] 100)
  rwa [World.size_alloc] at this
 generalize ((w.alloc (.cells #[.slice none 0 0] 22)).alloc (.cells #[.slice va l.length vc] 100))=W0 at *
 have hl0:=h.below hB0
 refine Z0p (U:=Nat × Int) (by omega) (gf:=178) (lb:=#[.pointer (some ⟨w.heap.size+1,0,none⟩)]) rfl (enters_of Tryz.func178 (by kernel_rfl) rfl)
  (fun x:Nat × Int=>#[.int .i64 x.1,.int .i64 x.2]) (fun _=>rfl) (fun k=>k=w.heap.size∨W0.heap.size+1<k) (·=w.heap.size+1) (fun k e=>by omega) (fun k e=>by omega) (ZY l)
  (fun pre A=>∃ v,A.heap[w.heap.size]?=some (.cells #[v] 22 (0,0))∧Own u8c 1 5 (w.heap.size+4) A v (Uq pre)∧Ext (fun k=>k=w.heap.size∨k=w.heap.size+1) W0 A)
  (fun pre A A' hh hx=>?_)
  (Z15 4 (by omega) (w.heap.size+1) _ l (fun k=>k=w.heap.size∨W0.heap.size+1<k) W0 hl0 s0 (by omega) (fun hne b o m c e=>?_)) ⟨_,o0,Own.nil,Ext.refl _ _⟩ ?_ ?_
 ·obtain ⟨v,h1,h2,h3⟩:=hh
  have hlt:=(Array.getElem?_eq_some_iff.1 h1).1
  exact ⟨v,(hx.block _ hlt (by omega)).trans h1,h2.ext hx (fun b hb e=>by have:=(h2.blk b hb).1;omega),h3.andThen hx (fun i hi e=>by omega)⟩
 ·cases e
  obtain ⟨b',o',e2,h5⟩:=hcs hne
  cases e2
  obtain ⟨x,hx⟩:∃ x,l[0]?=some x:=by
   cases l with
   | nil=>exact absurd rfl hne
   | cons x r=>exact ⟨x,rfl⟩
  have:=Zq (h5 0 x hx 0 _ rfl)
  refine ⟨?_,?_,?_⟩ <;> omega
 ·rintro lb pre x A ⟨v,ho,hown,hx⟩ hpx hlt
  have HLE:=Jh (Z84 hpx)
  obtain ⟨hx1,hx2,hx3⟩:=Z1G _ l rfl x (hpx.mem (List.mem_append_right pre (List.mem_singleton.2 rfl)))
  have hxin:=HIN.out x.2 hx3
  obtain ⟨k,y⟩:=x
  dsimp only at hx1 hx2 hx3 hxin ⊢
  gi_wp2
  refine ⟨Ext.refl _ _,⟨v,ho,hown,hx⟩,fun W2 ⟨v2,ho2,hown2,hxW2⟩ hxx=>?_⟩
  obtain ⟨⟨va2,vn2,vc2⟩,e2⟩:=hown2.sl
  dsimp only at e2
  subst e2
  have hk64:k<18446744073709551616:=by omega
  have hsz2:=hxW2.size
  have hsz3:=hxx.size
  have hz64:=VD hxin.1 hxin.2
  have b0:=cell_of_one ho2
  have HF:Hid (W2.drew.heap[w.heap.size]?=some (.cells #[.slice va2 vn2 vc2] 22 (0,0))∧Own u8c 1 5 (w.heap.size+4) W2.drew (.slice va2 vn2 vc2) (Uq pre)∧Ext (fun k=>k=w.heap.size∨k=w.heap.size+1) W0 W2.drew∧Ext (fun _=>False) W2 W2.drew):=Lib.hid ⟨ho2,hown2,hxW2.drew,(Ext.refl _ _).drew⟩
  have hS0:(fun W:World=>W.cell? ⟨w.heap.size,0,none⟩=some (.slice va2 vn2 vc2)) W2.drew:=b0
  clear b0 ho2 hown2 hxW2 ho hown hx hxx
  refine wpIn_block ?_
  refine Vt (fun W:World=>W.cell? ⟨w.heap.size,0,none⟩=some (.slice va2 vn2 vc2)) (fun i=>i == 9) (by kernel_rfl) (by kernel_rfl) ?_ ?_
  ·rintro ⟨_,_,h⟩;exact h
  have hszd:W2.drew.heap.size=W2.heap.size:=rfl
  generalize W2.drew=W3 at hS0 HF hszd ⊢
  have hkw:IntKind.u64.wrap (k:Int)=(k:Int):=by rw[Yc];omega
  refine J0 0 10 ((.slice va2 vn2 vc2)) hS0 ?_
  try simp only[Ja]
  refine J0 1 11 (.int .i64 k) hS0 ?_
  try simp only[Ja]
  refine J0 2 12 (.int .u64 k) hS0 ?_
  try simp only[Ja]
  refine J0 5 15 (.int .i64 y) hS0 ?_
  try simp only[Ja]
  refine Zm (i:=3) (d:=some 13) (f:=64) (args:=#[.int .u64 k]) (w':=W3) (by kernel_rfl) rfl rfl (by rfl) (by go_simp;try rfl) ?_
  refine (UE k _ hk64).mono ?_
  rintro e w5 ⟨v5,rfl,hown5,b5⟩
  have hS5:w5.cell? ⟨w.heap.size,0,none⟩=some (.slice va2 vn2 vc2):=Y9 b5 hS0
  refine ⟨_,rfl,fun _=>hS5,?_⟩
  try simp only[Ja]
  have hlen:(Uq pre).length+(Z5 k).length≤140737488355328∧(Uq pre++Z5 k).length+(Z5 (Yf y)).length≤140737488355328:=by
   have h1:=HLE.out
   rw[Z1A,←RS _ l rfl] at h1
   have h2:=HL.out
   simp only[List.length_append] at h1 ⊢
   omega
  have hb35:Below (w.heap.size+4) W3 w5:=b5.mono (by omega)
  obtain ⟨⟨ta,tn,tc⟩,w6,hr6,own6,b6,hsz6⟩:=ZF (HF.out.2.1.below1 b5) hb35 (hown5.slice Z7) (by have:=b5.size;omega) hlen.1
  have hS6:w6.cell? ⟨w.heap.size,0,none⟩=some (.slice va2 vn2 vc2):=WJ b6 hS0 (by omega)
  refine Zk (i:=4) (d:=some 14) (v:=.slice ta tn tc) (w':=w6) (by kernel_rfl) rfl rfl (by rfl) (Xp rfl rfl rfl hr6) (fun _=>hS6) ?_
  try simp only[Ja]
  refine Zm (i:=6) (d:=some 16) (f:=148) (args:=#[.int .i64 y]) (w':=w6) (by kernel_rfl) rfl rfl (by rfl) (by go_simp;try rfl) ?_
  refine (Z7G y _ hxin.1 hxin.2).mono ?_
  rintro e w7 ⟨rfl,e7⟩
  rw[←e7]
  clear e7 w7
  refine ⟨_,rfl,fun _=>hS6,?_⟩
  try simp only[Ja]
  refine Zm (i:=7) (d:=some 17) (f:=64) (args:=#[.int .u64 (Yf y)]) (w':=w6) (by kernel_rfl) rfl rfl (by rfl) (by go_simp;try rfl) ?_
  refine (UE _ _ hz64).mono ?_
  rintro e w8 ⟨v8,rfl,hown8,b8⟩
  have hS8:w8.cell? ⟨w.heap.size,0,none⟩=some (.slice va2 vn2 vc2):=Y9 b8 hS6
  refine ⟨_,rfl,fun _=>hS8,?_⟩
  try simp only[Ja]
  have hb38:Below (w.heap.size+4) W3 w8:=b6.trans (b8.mono hsz6)
  obtain ⟨⟨ua,un,uc⟩,w9,hr9,own9,b9,hsz9⟩:=ZF (own6.below1 b8) hb38 (hown8.slice Z7) (Nat.le_trans hsz6 b8.size) hlen.2
  have hS9:w9.cell? ⟨w.heap.size,0,none⟩=some (.slice va2 vn2 vc2):=WJ b9 hS0 (by omega)
  refine Zk (i:=8) (d:=some 18) (v:=.slice ua un uc) (w':=w9) (by kernel_rfl) rfl rfl (by rfl) (Xp rfl rfl rfl hr9) (fun _=>hS9) ?_
  try simp only[Ja]
  have ho9:w9.heap[w.heap.size]?=some (.cells #[.slice va2 vn2 vc2] 22 (0,0)):=(b9.block _ (by omega)).trans HF.out.1
  have f9:=free_of_one ho9
  refine Zn (i:=9) (d:=none) (w':=w9.setCell ⟨w.heap.size,0,none⟩ (.slice ua un uc)) (by kernel_rfl) rfl rfl (by rfl) (by go_simp;try rfl) (fun h=>by cases h) ?_
  try simp only[Ja]
  refine Z3 (by kernel_rfl) ?_ _
  have hx10:Ext (·=w.heap.size) w9 (w9.setCell ⟨w.heap.size,0,none⟩ (.slice ua un uc)):=(Ext.refl (·=w.heap.size) w9).setCell (p:=⟨w.heap.size,0,none⟩) (.inr rfl) (.slice ua un uc)
  have hE9:Ext (fun k=>w.heap.size+4≤k) W3 w9:=Vr b9
  refine ⟨⟨_,one_setCell ho9,?_,?_⟩,?_⟩
  ·rw[Z1A]
   exact own9.ext hx10 (fun b hb e=>by have:=(own9.blk b hb).1;omega)
  ·exact (HF.out.2.2.1.andThen hE9 (fun i hi e=>by omega)).andThen hx10 (fun i hi e=>.inl e)
  ·exact ((HF.out.2.2.2.mono (fun _ _ f=>f.elim)).andThen (S:=fun k=>k=w.heap.size∨W0.heap.size+1<k) hE9 (fun i hi e=>.inr (by omega))).andThen hx10 (fun i hi e=>.inl e)
 ·rintro A ⟨v,ho,hown,hx⟩ hK
  have hc:A.cell? ⟨w.heap.size,0,none⟩=some v:=by simp[World.cell?,ho]
  have HX:=Lib.hid hx
  have HW:=Jh (hx.size)
  have HK:=Lib.hid hK
  have HOWN:=Lib.hid hown
  have HB0:=Lib.hid hB0
  have HE:=Jh (RS _ l rfl)
  clear ho hx hK hown hB0 hl0 o0 s0 h
  gi_wp2
  have hx7:Ext (·=W0.heap.size) A (A.putObj W0.heap.size (.deferred none)):=YW _ _ _
  have hsz:=HW.out
  refine ⟨by simp,.inl ⟨_,_,rfl,run_takeDeferred HK.out,?_⟩⟩
  refine ⟨_,results_tmp rfl _ _ _,v,rfl,?_,?_⟩
  ·rw[HE.out]
   exact (HOWN.out.ext hx7 (fun b hb e=>by have:=(HOWN.out.blk b hb).1;omega)).mono (by omega)
  ·exact Ext.new (Ext.new HB0.out HX.out (fun i hi _ e=>by omega) (by omega)) hx7 (fun i hi _ e=>by omega) (by omega)
end Go.Proofs.YtgmdimbiipemhaaGreatDoor
namespace Go.Proofs.YtgmdimbiipemhaaGreatDoor
open Go.RowKit Go.Deep
open Go.Shelf
theorem Z35 (l:List Int):l.flatMap Zh=l.map (Value.int .i64):=by
 induction l with
 | nil=>rfl
 | cons x l ih=>rw[List.flatMap_cons,ih];rfl
theorem Z5r (v:Value) (l:List Int) (w:World) (h:Z0 Zh 1 w v l) (hn:l.length≤1000000000000):Calls Tryz.prog 146 #[v] w fun e w'=>∃ v',e=.returned v'∧Own Zh 1 3 w.heap.size w' v' l∧Below w.heap.size w w':=by
 obtain ⟨a,cap,rfl,hcap,hmax,hcs⟩:=h
 cases a with
 | none =>
  have hl:l=[]:=Classical.byContradiction fun hne=>by obtain ⟨_,_,e,_⟩:=hcs hne;cases e
  subst hl
  refine Calls.mono (show Calls Tryz.prog 146 _ _ _ from Any.slices_Clone_int_nil Tryz.cloneF 0 cap w) ?_
  rintro e w' ⟨rfl,rfl⟩
  exact ⟨_,rfl,Own.nil,Below.refl _ _⟩
 | some ad =>
  by_cases hl:l=[]
  ·subst hl
   refine Calls.mono (show Calls Tryz.prog 146 _ _ _ from Any.slices_Clone_int_zero Tryz.cloneF ad cap w) ?_
   rintro e w' ⟨v',rfl,hown,-,hb⟩
   exact ⟨_,rfl,hown,hb⟩
  ·obtain ⟨b,o,e,hc⟩:=hcs hl
   cases e
   refine Calls.mono (show Calls Tryz.prog 146 _ _ _ from Any.slices_Clone_int Tryz.cloneF b o l.length cap l w (Nat.le_refl _) (by omega) (fun j hj=>by
    have:=hc j _ (List.getElem?_eq_getElem hj) 0 _ rfl
    rw[Nat.mul_one,Nat.add_zero] at this
    rw[this,List.getD_eq_getElem?_getD,List.getElem?_eq_getElem hj]
    rfl)) ?_
   rintro e w' ⟨v',rfl,hown,-,hb⟩
   refine ⟨_,rfl,?_,hb⟩
   unfold Own
   rw[Z35]
   rw[List.take_of_length_le (Nat.le_refl _)] at hown
   exact hown
theorem Z3H (v:Value) (l:List Int) (w:World) (h:Z0 Zh 1 w v l) (hn:l.length≤1000000000000) (hin:∀ x∈l,-9223372036854775808≤x∧x≤9223372036854775807):Calls Tryz.prog 94 #[v] w fun e w'=>Xv w (Zc (ZG l)) e w':=by
 have HCL:=Jh (Z5r v l w h hn)
 obtain ⟨a,cap,rfl,hcap,hmax,-⟩:=id h
 unfold maxLen at hmax
 have HH:=Lib.hid h
 have HIN:=Lib.hid hin
 have HN:=Lib.hid hn
 have hdl:=Xj l
 have HDL:=Lib.hid hdl
 clear h hin hdl
 go_enter Tryz.func94,Tryz.ntmps94
 go_wp2_with fail
 refine HCL.out.mono ?_
 rintro e w5 ⟨v5,rfl,hown,hb⟩
 obtain ⟨⟨sa,sn,sc⟩,e5⟩:=hown.sl
 dsimp only at e5
 subst e5
 obtain rfl:=(hown.nlen Zg).1
 have HU:=Jh (And.intro hown hb)
 clear hown hb HCL hn
 go_wp2_with fail
 go_loopg [9,4] l.length (fun g kv iv wr=>∃ i:Nat,g=l.length - i∧kv=.int .i64 i∧i≤l.length∧Hid (Own Zh 1 3 w.heap.size wr (.slice sa l.length sc) (XG (ZG l) l i)∧Below w.heap.size w wr))
 case atStart=>exact ⟨0,rfl,rfl,Nat.zero_le _,by rw[Z1C];exact HU⟩
 case round =>
  clear HU
  obtain ⟨i,hg,rfl,hil,HU⟩:=hrel
  have HG:=Lib.hid hg
  clear hg
  by_cases hlt:i<l.length
  ·have hi1:(i:Int)<(l.length:Int):=by omega
   obtain ⟨x,hx⟩:∃ x,l[i]?=some x:=⟨_,List.getElem?_eq_getElem hlt⟩
   cases i with
   | zero =>
    have HN2:Hid (Own Zh 1 3 w.heap.size wr (.slice sa l.length sc) (XG (ZG l) l 1)∧Below w.heap.size w wr):=Jh (by rw[←Z1W HDL.out (Z43 hx) hx];exact HU.out)
    clear hx HU
    go_wp2_with fail
    go_roundg (l.length - 1)
    case measure=>rw[HG.out];omega
    case rel=>exact ⟨1,rfl,by simp,by omega,HN2⟩
   | succ j =>
    obtain ⟨y,hy⟩:∃ y,l[j]?=some y:=⟨_,List.getElem?_eq_getElem (by omega)⟩
    have hs:=Z4v hx hy
    obtain ⟨z,hz⟩:∃ z,z=Yb (x - y):=⟨_,rfl⟩
    rw[←hz] at hs
    have hml:=QF HDL.out (show j+1≤l.length by omega)
    have HO:=HU.out.1
    rw[←hml] at HO
    obtain ⟨bb,hsa⟩:∃ bb,sa=some ⟨bb,0,none⟩:=by
     rcases HO.eq_slice with ⟨e,h⟩|⟨g,c,e,_⟩
     ·rw[h] at hml;simp at hml;omega
     ·cases e;exact ⟨g,rfl⟩
    subst hsa
    have hbk:=(HU.out.1.blk bb rfl).1
    obtain ⟨b0,o0,rfl,c1⟩:=(HH.out.below HU.out.2).at1 hx rfl
    obtain ⟨_,_,e2,c0⟩:=(HH.out.below HU.out.2).at1 hy rfl
    cases e2
    have hb0:b0<w.heap.size:=by
     obtain ⟨_,_,e3,c3⟩:=HH.out.at1 hy rfl
     cases e3
     exact Zq c3
    have c4:∃ u,wr.cell? ⟨bb,j+1,none⟩=some u:=⟨_,by have:=HO.cellAt Zg (TV HDL.out hx) (j:=0) rfl;rwa [Nat.mul_one,Nat.add_zero] at this⟩
    obtain ⟨u4,c4⟩:=c4
    have f1:=HO.free (j+1)
    have HN2:Hid (Own Zh 1 3 w.heap.size (wr.drew.setCell ⟨bb,j+1,none⟩ (.int .i64 z)) (.slice (some ⟨bb,0,none⟩) l.length sc) (XG (ZG l) l (j+2))∧Below w.heap.size w (wr.drew.setCell ⟨bb,j+1,none⟩ (.int .i64 z))):=Lib.hid ⟨by
     have h1:=Own.setAt (show Own Zh 1 3 w.heap.size wr.drew (.slice (some ⟨bb,0,none⟩) (XG (ZG l) l (j+1)).length sc) (XG (ZG l) l (j+1)) from HO) Zg (i:=j+1) (j:=0) (y:=z) (TV HDL.out hx) (by omega) rfl
     rw[hml,Nat.mul_one,Nat.add_zero,Rt HDL.out hs] at h1
     exact h1,(HU.out.2.drew).setCell hbk _⟩
    have hzz:IntKind.i64.wrap (x - y)=z:=by rw[hz,U4]
    have hj0:IntKind.i64.wrap (j:Int)=(j:Int):=IntWalk.i64_in _ (by omega)
    have hj3:¬ ((j:Int)+1<0):=by omega
    have hj4:(0:Int)≤(j:Int)+1:=by omega
    have hj1:IntKind.i64.wrap (((j+1:Nat):Int) - 1)=(j:Int):=by rw[IntWalk.i64_in _ (by omega)];omega
    have hj2:(j:Int)<(l.length:Int):=by omega
    clear hx hy hs hz hml HO HU
    go_upto_region 6 with fail
    have hS0:(fun W:World=>W.cell? ⟨b0,o0+(j+1),none⟩=some (.int .i64 x)∧W.cell? ⟨b0,o0+j,none⟩=some (.int .i64 y)) wr.drew:=⟨c1,c0⟩
    have f2:wr.drew.frozen? ⟨bb,j+1,none⟩=false:=f1
    have c2:wr.drew.cell? ⟨bb,j+1,none⟩=some u4:=c4
    clear c1 c0 f1 c4
    refine Z6 (fun W:World=>W.cell? ⟨b0,o0+(j+1),none⟩=some (.int .i64 x)∧W.cell? ⟨b0,o0+j,none⟩=some (.int .i64 y)) (fun i=>i == 13) (by kernel_rfl) ?_
    generalize wr.drew=W1 at hS0 HN2 f2 c2 ⊢
    refine J2 0 14 _ hS0 ?_
    try simp only[Ja]
    refine J2 1 15 _ hS0 ?_
    try simp only[Ja]
    refine J2 2 16 _ hS0 ?_
    try simp only[Ja]
    refine J2 3 17 _ hS0 ?_
    try simp only[Ja]
    refine J2 4 18 (.pointer (some ⟨b0,o0+(j+1),none⟩)) hS0 ?_
    try simp only[Ja]
    refine J2 5 19 (.int .i64 x) hS0 ?_
    try simp only[Ja]
    refine J2 6 20 _ hS0 ?_
    try simp only[Ja]
    refine J2 7 21 _ hS0 ?_
    try simp only[Ja]
    refine J2 8 22 (.int .i64 j) hS0 ?_
    try simp only[Ja]
    refine J2 9 23 (.pointer (some ⟨b0,o0+j,none⟩)) hS0 ?_
    try simp only[Ja]
    refine J2 10 24 (.int .i64 y) hS0 ?_
    try simp only[Ja]
    refine J2 11 25 (.int .i64 z) hS0 ?_
    try simp only[Ja]
    refine J2 12 26 (.pointer (some ⟨bb,j+1,none⟩)) hS0 ?_
    try simp only[Ja]
    refine Zn (i:=13) (d:=none) (w':=W1.setCell ⟨bb,j+1,none⟩ (.int .i64 z)) (by kernel_rfl) rfl rfl (by rfl) (by go_simp;try rfl) (fun h=>by cases h) ?_
    try simp only[Ja]
    refine Z3 (by kernel_rfl) ?_ _
    clear hS0 f2 c2
    generalize W1.setCell ⟨bb,j+1,none⟩ (.int .i64 z)=W2 at HN2 ⊢
    go_wp2_with fail
    go_roundg (l.length - (j+2))
    case measure=>rw[HG.out];omega
    case rel=>exact ⟨j+2,rfl,by simp;omega,by omega,HN2⟩
  ·obtain rfl:i=l.length:=by omega
   have hi1:¬ (l.length:Int)<(l.length:Int):=by omega
   have HO:Hid (Own Zh 1 3 w.heap.size wr (.slice sa l.length sc) (ZG l)∧Below w.heap.size w wr):=Jh (by have h:=HU.out;rw[Z2u HDL.out] at h;exact h)
   clear hlt HU
   go_wp2_with fail
   refine (Ui _ (ZG l) _ (HO.out.1.slice Zg) (by rw[HDL.out];exact HN.out) (Uj HIN.out)).mono ?_
   rintro e w6 ⟨v6,rfl,hown6,b6⟩
   have HN5:=Jh (And.intro (hown6.mono HO.out.2.size) (HO.out.2.trans (b6.mono HO.out.2.size)))
   clear hown6 b6
   go_wp2_with fail
   go_ret
   exact ⟨_,rfl,HN5.out.1,HN5.out.2⟩
end Go.Proofs.YtgmdimbiipemhaaGreatDoor
namespace Go.Proofs.YtgmdimbiipemhaaGreatDoor
open Go.RowKit Go.Deep
attribute [local go_sem] Oper.semAt_some
theorem Z2g (va:Option Addr) (m vc:Nat) (w:World):Calls Tryz.prog 149 #[.slice va m vc] w
  fun e w'=>e=.returned (.func (.func 179) #[] #[.pointer (some ⟨w.heap.size,0,none⟩)])∧w'=w.alloc (.cells #[.slice va m vc] 75):=by
 go_enter Tryz.func149,Tryz.ntmps149
 go_wp2_with fail
 go_ret
 exact ⟨rfl,rfl⟩
theorem Z0y (n:Nat) (hn:1≤n) (Bs:Nat) (v:Value) (l:List Bool) (R:Nat→Prop) (w:World) (hv:Z0 btc 1 w v l) (hB:w.heap[Bs]?=some (.cells #[v] 75 (0,0))) (hRB:¬ R Bs) (hRv:l≠[]→∀ b o m c,v=.slice (some ⟨b,o,none⟩) m c→¬ R b∧b<w.heap.size∧b≠Bs) :
  So Tryz.prog n 179 #[.pointer (some ⟨Bs,0,none⟩)] (fun x:Nat × Bool=>#[.int .i64 x.1,.bool x.2]) R (·=Bs) (ZY l) w:=by
 intro lb I W hl hb hI hY h0
 obtain ⟨va,vc,rfl,hcap,hmax,hcs⟩:=id hv
 unfold maxLen at hmax
 have hBl:=(Array.getElem?_eq_some_iff.1 hB).1
 have HI:=Lib.hid hI
 have HY:=Lib.hid hY
 have HB0:W.heap[Bs]?=some (.cells #[.slice va l.length vc] 75 (0,0)):=(hb.block _ hBl).trans hB
 have hS0:Z0 btc 1 W (.slice va l.length vc) l:=hv.below hb
 have HV:Hid (l≠[]→∀ ad,va=some ad→¬ R ad.block∧ad.block<w.heap.size∧ad.block≠Bs):=Jh (fun hne ad e=>by
  obtain ⟨b,o,e2,_⟩:=hcs hne
  rw[e] at e2
  cases e2
  exact hRv hne b o _ _ (by rw[e]))
 have HF:Hid (W.heap[Bs]?=some (.cells #[.slice va l.length vc] 75 (0,0))∧Z0 btc 1 W (.slice va l.length vc) l∧I [] W):=Lib.hid ⟨HB0,hS0,h0⟩
 clear hv hcs hI hY hRv hB hS0 HB0 h0 hb
 refine callsIn_of_wp Tryz.func179 rfl trivial ?_ rfl
 simp only[Tryz.ntmps179,List.size_toArray,List.length_cons,List.length_nil,Nat.reduceAdd,Nat.reduceSub,Array.replicate_succ,Array.replicate_zero,List.push_toArray,List.append_toArray,List.nil_append,List.cons_append]
 refine wpIn_wide.2 ?_
 go_wp2_with fail
 go_loopg [3] l.length (fun g nv wr=>∃ (r:List Bool) (pre:List (Nat × Bool)) (ra:Option Addr) (rc:Nat),g=r.length∧r.length≤l.length∧r.length≤rc∧rc≤2 ^ 63 - 1∧Hid (ZY l=pre++ZY r)∧Hid (r≠[]→∀ ad,ra=some ad→¬ R ad.block∧ad.block<w.heap.size∧ad.block≠Bs)∧Hid (wr.heap[Bs]?=some (.cells #[.slice ra r.length rc] 75 (0,0))∧Z0 btc 1 wr (.slice ra r.length rc) r∧I pre wr))
 case atStart=>exact ⟨l,[],va,vc,rfl,Nat.le_refl _,hcap,hmax,Lib.hid rfl,HV,HF⟩
 case round =>
  clear HV HF hcap hmax
  obtain ⟨r,pre,ra,rc,hg,hrl,hcap,hmax,HP,HV,HF⟩:=hrel
  have HG:=Lib.hid hg
  clear hg
  have b0:=cell_of_one HF.out.1
  by_cases hr0:r.length=0
  ·obtain rfl:r=[]:=List.eq_nil_of_length_eq_zero hr0
   have hr1:¬ (0:Int)<0:=by omega
   have HE:Hid (ZY l=pre):=Jh (by rw[HP.out,Z1Y,List.append_nil])
   go_wp2_with fail
   go_end0
   rw[HE.out]
   exact ⟨⟨_,rfl⟩,HF.out.2.2⟩
  ·have hr1:(0:Int)<(r.length:Int):=by omega
   obtain ⟨x0,hx0⟩:∃ x,r[0]?=some x:=⟨_,List.getElem?_eq_getElem (by omega)⟩
   have HX0:=Lib.hid hx0
   have hrne:r≠[]:=fun e=>hr0 (by rw[e];rfl)
   obtain ⟨bb,oo,rfl,-⟩:=HF.out.2.1.at1 hx0 rfl
   have HVB:=Jh (HV.out hrne _ rfl)
   have HRN:=Lib.hid hrne
   clear hx0 hrne hr0
   go_wp2_with fail
   clear b0
   go_loopg [3] (r.length - 1) (fun g nv wx=>∃ k:Nat,g=r.length - k∧nv=.int .i64 k∧1≤k∧k≤r.length∧Hid (k≤Za x0 r)∧Hid (wx.heap[Bs]?=some (.cells #[.slice (some ⟨bb,oo,none⟩) r.length rc] 75 (0,0))∧Z0 btc 1 wx (.slice (some ⟨bb,oo,none⟩) r.length rc) r∧I pre wx))
   case atStart=>exact ⟨1,rfl,rfl,Nat.le_refl _,by omega,Jh (Z21 HX0.out),HF⟩
   case round =>
    clear HF
    obtain ⟨k,hg2,rfl,hk1,hkr,HC,HF⟩:=hrel
    have HG2:=Lib.hid hg2
    clear hg2
    have hB:=HF.out.1
    have c1:wr.cell? ⟨bb,oo,none⟩=some (.bool x0):=by
     obtain ⟨_,_,e,c⟩:=HF.out.2.1.at1 HX0.out rfl
     cases e
     exact c
    have HF1:Hid (wr.drew.heap[Bs]?=some (.cells #[.slice (some ⟨bb,oo,none⟩) r.length rc] 75 (0,0))∧Z0 btc 1 wr.drew (.slice (some ⟨bb,oo,none⟩) r.length rc) r∧I pre wr.drew):=Lib.hid ⟨HF.out.1,HF.out.2.1,HI.out _ _ _ HF.out.2.2 (Ext.refl _ _).drew⟩
    have b0:=cell_of_one hB
    by_cases hk:k<r.length
    ·have hki:(k:Int)<(r.length:Int):=by omega
     obtain ⟨x,hx⟩:∃ x,r[k]?=some x:=⟨_,List.getElem?_eq_getElem hk⟩
     have c0:wr.cell? ⟨bb,oo+k,none⟩=some (.bool x):=by
      obtain ⟨_,_,e,c⟩:=HF.out.2.1.at1 hx rfl
      cases e
      exact c
     have HX:=Jh (Ru (x:=x0) (l:=r) (i:=0) (Nat.zero_le k) (by simpa using HC.out) hx)
     simp only[List.drop_zero,Nat.sub_zero] at HX
     go_upto_region 2 with fail
     have hS0:(fun W:World=>W.cell? ⟨Bs,0,none⟩=some (.slice (some ⟨bb,oo,none⟩) r.length rc)∧W.cell? ⟨bb,oo+k,none⟩=some (.bool x)∧W.cell? ⟨bb,oo,none⟩=some (.bool x0)) wr.drew:=⟨b0,c0,c1⟩
     clear b0 c0 c1 hB HF hx
     refine Z6 (fun W:World=>W.cell? ⟨Bs,0,none⟩=some (.slice (some ⟨bb,oo,none⟩) r.length rc)∧W.cell? ⟨bb,oo+k,none⟩=some (.bool x)∧W.cell? ⟨bb,oo,none⟩=some (.bool x0)) (fun _=>false) (by kernel_rfl) ?_
     generalize wr.drew=W1 at hS0 HF1 ⊢
     refine J3 0 7 _ hS0 ?_
     try simp only[Ja]
     refine J3 1 8 (.slice (some ⟨bb,oo,none⟩) r.length rc) hS0 ?_
     try simp only[Ja]
     refine J3 2 9 (.int .i64 r.length) hS0 ?_
     try simp only[Ja]
     refine J3 3 10 (.bool true) hS0 ?_
     try simp only[Ja]
     refine J3 4 11 (.bool true) hS0 ?_
     try simp only[Ja]
     refine J3 5 12 (.slice (some ⟨bb,oo,none⟩) r.length rc) hS0 ?_
     try simp only[Ja]
     refine J3 6 13 _ hS0 ?_
     try simp only[Ja]
     refine J3 7 14 (.pointer (some ⟨bb,oo+k,none⟩)) hS0 ?_
     try simp only[Ja]
     refine J3 8 15 (.bool x) hS0 ?_
     try simp only[Ja]
     refine J3 9 16 (.slice (some ⟨bb,oo,none⟩) r.length rc) hS0 ?_
     try simp only[Ja]
     refine J3 10 17 (.pointer (some ⟨bb,oo,none⟩)) hS0 ?_
     try simp only[Ja]
     refine J3 11 18 (.bool x0) hS0 ?_
     try simp only[Ja]
     by_cases hxx:x=x0
     ·have hC2:=HX.out.1 hxx
      have hs1:(x == x0)=true:=by simpa using hxx
      have HC2:=Lib.hid hC2
      clear HX hC2 HC hxx
      refine J3 12 19 (.bool true) hS0 ?_
      try simp only[Ja]
      refine J3 13 20 (.bool true) hS0 ?_
      try simp only[Ja]
      refine Z3 (by kernel_rfl) ?_ _
      clear hS0
      go_wp2_with fail
      go_roundg (r.length - (k+1))
      case measure=>rw[HG2.out];omega
      case rel=>exact ⟨k+1,rfl,by simp,by omega,by omega,HC2,HF1⟩
     ·have HM:=Jh (HX.out.2 hxx)
      have hs1:(x == x0)=false:=by simpa using hxx
      clear HX HC hxx
      refine J3 12 19 (.bool false) hS0 ?_
      try simp only[Ja]
      refine J3 13 20 (.bool false) hS0 ?_
      try simp only[Ja]
      refine Z3 (by kernel_rfl) ?_ _
      clear hS0
      have HRL:=Uv HX0.out
      rw[←HM.out] at HRL
      have HP2:Hid (ZY l=(pre++[(k,x0)])++ZY (r.drop k)):=Jh (by rw[HP.out,HRL];simp)
      have hpx:pre++[(k,x0)] <+: ZY l:=⟨_,HP2.out.symm⟩
      obtain ⟨fn,tmps,assign,body,hy,hR⟩:=HY.out pre (k,x0) W1 HF1.out.2.2 hpx
      dsimp only at hy
      have b1:=cell_of_one HF1.out.1
      have c1:W1.cell? ⟨bb,oo,none⟩=some (.bool x0):=by
       obtain ⟨_,_,e,c⟩:=HF1.out.2.1.at1 HX0.out rfl
       cases e
       exact c
      obtain ⟨a2,c2,hsl,hS2,hA2⟩:=ZE (P:=Tryz.prog) (ea:=btc) Tryz.underlying75 Z1P (some ⟨bb,oo,none⟩) r.length rc k hcap hkr
      have HSL:=Lib.hid hsl
      have HS2:=Lib.hid hS2
      have HA2:=Lib.hid hA2
      have HCP:Hid (r.length - k≤c2∧c2≤2 ^ 63 - 1):=Jh (by
       obtain ⟨a3,c3,e3,h3,h4,-⟩:=hS2 W1 r rfl HF1.out.2.1
       have e6:c2=c3:=by injection e3
       rw[e6]
       rw[List.length_drop] at h3
       unfold maxLen at h4
       exact ⟨h3,h4⟩)
      clear hsl hS2 hA2 HRL hpx
      go_upto_region 4 with fail
      refine (wpIn_wide (n:=n)).1 ?_
      gi_wp2
      refine hR.mono ?_
      rintro e W3 ⟨rfl,hI3,hx3⟩
      have hBs:¬ (Bs=lb∨R Bs):=fun h=>by
       rcases h with h|h
       ·omega
       ·exact hRB h
      have hbb:¬ (bb=lb∨R bb):=fun h=>by
       have h5:=HVB.out
       rcases h with h|h
       ·omega
       ·exact h5.1 h
      have hB3:W3.heap[Bs]?=some (.cells #[.slice (some ⟨bb,oo,none⟩) r.length rc] 75 (0,0)):=(hx3.block _ (Array.getElem?_eq_some_iff.1 HF1.out.1).1 hBs).trans HF1.out.1
      have hS3:Z0 btc 1 W3 (.slice (some ⟨bb,oo,none⟩) r.length rc) r:=HF1.out.2.1.of1 (fun o u h=>hx3.keep h hbb)
      have HF4:Hid ((W3.setCell ⟨Bs,0,none⟩ (.slice a2 (r.length - k) c2)).heap[Bs]?=some (.cells #[.slice a2 (r.drop k).length c2] 75 (0,0))∧Z0 btc 1 (W3.setCell ⟨Bs,0,none⟩ (.slice a2 (r.length - k) c2)) (.slice a2 (r.drop k).length c2) (r.drop k)∧I (pre++[(k,x0)]) (W3.setCell ⟨Bs,0,none⟩ (.slice a2 (r.length - k) c2))):=Jh (by
       have hBsz:=(Array.getElem?_eq_some_iff.1 hB3).1
       have hXS:=(Ext.refl (·=Bs) W3).setCell (p:=⟨Bs,0,none⟩) (.inr rfl) (.slice a2 (r.length - k) c2)
       have hS4:=hS3.of1 (fun o u h=>hXS.keep h (fun e=>HVB.out.2.2 e))
       rw[List.length_drop]
       refine ⟨?_,HS2.out _ r rfl hS4,HI.out _ _ _ hI3 hXS⟩
       rw[one_setCell hB3])
      have b3:=cell_of_one hB3
      have f3:=free_of_one hB3
      have HV4:Hid (r.drop k≠[]→∀ ad,a2=some ad→¬ R ad.block∧ad.block<w.heap.size∧ad.block≠Bs):=Jh (fun _ ad e=>by
       obtain ⟨ad0,e0,e1⟩:=HA2.out ad e
       cases e0
       rw[e1]
       exact HVB.out)
      have hsl3:=HSL.out
      clear hB3 hS3 hI3 hx3 hBs hbb HF1 b1 c1 hy hR HS2 HA2 HSL
      gi_wp2
      go_wp2_with fail
      generalize W3.setCell ⟨Bs,0,none⟩ (.slice a2 (r.length - k) c2)=W4 at HF4 ⊢
      go_roundg (r.drop k).length
      case measure=>rw[HG.out,List.length_drop];omega
      case rel=>exact ⟨r.drop k,pre++[(k,x0)],a2,c2,rfl,by rw[List.length_drop];omega,by rw[List.length_drop];exact HCP.out.1,HCP.out.2,HP2,HV4,HF4⟩
    ·have hkk:k=r.length:=by omega
     have hki:¬ (k:Int)<(r.length:Int):=by omega
     have HM:Hid (k=Za x0 r):=Jh (by have h1:=Sd (x:=x0) (l:=r) (i:=0) (Nat.zero_le _) (by simpa [hkk] using HC.out);rw[hkk];simpa using h1)
     clear HC hkk hk
     go_upto_region 2 with fail
     have hS0:(fun W:World=>W.cell? ⟨Bs,0,none⟩=some (.slice (some ⟨bb,oo,none⟩) r.length rc)∧True∧True) wr.drew:=⟨b0,trivial,trivial⟩
     clear b0 c1 hB HF
     refine Z6 (fun W:World=>W.cell? ⟨Bs,0,none⟩=some (.slice (some ⟨bb,oo,none⟩) r.length rc)∧True∧True) (fun _=>false) (by kernel_rfl) ?_
     generalize wr.drew=W1 at hS0 HF1 ⊢
     refine J3 0 7 _ hS0 ?_
     try simp only[Ja]
     refine J3 1 8 (.slice (some ⟨bb,oo,none⟩) r.length rc) hS0 ?_
     try simp only[Ja]
     refine J3 2 9 (.int .i64 r.length) hS0 ?_
     try simp only[Ja]
     refine J3 3 10 (.bool false) hS0 ?_
     try simp only[Ja]
     refine J3 4 11 (.bool false) hS0 ?_
     try simp only[Ja]
     refine JO 5 12 rfl rfl hS0 ?_
     try simp only[Ja]
     refine JO 6 13 rfl rfl hS0 ?_
     try simp only[Ja]
     refine JO 7 14 rfl rfl hS0 ?_
     try simp only[Ja]
     refine JO 8 15 rfl rfl hS0 ?_
     try simp only[Ja]
     refine JO 9 16 rfl rfl hS0 ?_
     try simp only[Ja]
     refine JO 10 17 rfl rfl hS0 ?_
     try simp only[Ja]
     refine JO 11 18 rfl rfl hS0 ?_
     try simp only[Ja]
     refine JO 12 19 rfl rfl hS0 ?_
     try simp only[Ja]
     refine J3 13 20 (.bool false) hS0 ?_
     try simp only[Ja]
     refine Z3 (by kernel_rfl) ?_ _
     clear hS0
     have HRL:=Uv HX0.out
     rw[←HM.out] at HRL
     have HP2:Hid (ZY l=(pre++[(k,x0)])++ZY (r.drop k)):=Jh (by rw[HP.out,HRL];simp)
     have hpx:pre++[(k,x0)] <+: ZY l:=⟨_,HP2.out.symm⟩
     obtain ⟨fn,tmps,assign,body,hy,hR⟩:=HY.out pre (k,x0) W1 HF1.out.2.2 hpx
     dsimp only at hy
     have b1:=cell_of_one HF1.out.1
     have c1:W1.cell? ⟨bb,oo,none⟩=some (.bool x0):=by
      obtain ⟨_,_,e,c⟩:=HF1.out.2.1.at1 HX0.out rfl
      cases e
      exact c
     obtain ⟨a2,c2,hsl,hS2,hA2⟩:=ZE (P:=Tryz.prog) (ea:=btc) Tryz.underlying75 Z1P (some ⟨bb,oo,none⟩) r.length rc k hcap hkr
     have HSL:=Lib.hid hsl
     have HS2:=Lib.hid hS2
     have HA2:=Lib.hid hA2
     have HCP:Hid (r.length - k≤c2∧c2≤2 ^ 63 - 1):=Jh (by
      obtain ⟨a3,c3,e3,h3,h4,-⟩:=hS2 W1 r rfl HF1.out.2.1
      have e6:c2=c3:=by injection e3
      rw[e6]
      rw[List.length_drop] at h3
      unfold maxLen at h4
      exact ⟨h3,h4⟩)
     clear hsl hS2 hA2 HRL hpx
     go_upto_region 4 with fail
     refine (wpIn_wide (n:=n)).1 ?_
     gi_wp2
     refine hR.mono ?_
     rintro e W3 ⟨rfl,hI3,hx3⟩
     have hBs:¬ (Bs=lb∨R Bs):=fun h=>by
      rcases h with h|h
      ·omega
      ·exact hRB h
     have hbb:¬ (bb=lb∨R bb):=fun h=>by
      have h5:=HVB.out
      rcases h with h|h
      ·omega
      ·exact h5.1 h
     have hB3:W3.heap[Bs]?=some (.cells #[.slice (some ⟨bb,oo,none⟩) r.length rc] 75 (0,0)):=(hx3.block _ (Array.getElem?_eq_some_iff.1 HF1.out.1).1 hBs).trans HF1.out.1
     have hS3:Z0 btc 1 W3 (.slice (some ⟨bb,oo,none⟩) r.length rc) r:=HF1.out.2.1.of1 (fun o u h=>hx3.keep h hbb)
     have HF4:Hid ((W3.setCell ⟨Bs,0,none⟩ (.slice a2 (r.length - k) c2)).heap[Bs]?=some (.cells #[.slice a2 (r.drop k).length c2] 75 (0,0))∧Z0 btc 1 (W3.setCell ⟨Bs,0,none⟩ (.slice a2 (r.length - k) c2)) (.slice a2 (r.drop k).length c2) (r.drop k)∧I (pre++[(k,x0)]) (W3.setCell ⟨Bs,0,none⟩ (.slice a2 (r.length - k) c2))):=Jh (by
      have hBsz:=(Array.getElem?_eq_some_iff.1 hB3).1
      have hXS:=(Ext.refl (·=Bs) W3).setCell (p:=⟨Bs,0,none⟩) (.inr rfl) (.slice a2 (r.length - k) c2)
      have hS4:=hS3.of1 (fun o u h=>hXS.keep h (fun e=>HVB.out.2.2 e))
      rw[List.length_drop]
      refine ⟨?_,HS2.out _ r rfl hS4,HI.out _ _ _ hI3 hXS⟩
      rw[one_setCell hB3])
     have b3:=cell_of_one hB3
     have f3:=free_of_one hB3
     have HV4:Hid (r.drop k≠[]→∀ ad,a2=some ad→¬ R ad.block∧ad.block<w.heap.size∧ad.block≠Bs):=Jh (fun _ ad e=>by
      obtain ⟨ad0,e0,e1⟩:=HA2.out ad e
      cases e0
      rw[e1]
      exact HVB.out)
     have hsl3:=HSL.out
     clear hB3 hS3 hI3 hx3 hBs hbb HF1 b1 c1 hy hR HS2 HA2 HSL
     gi_wp2
     go_wp2_with fail
     generalize W3.setCell ⟨Bs,0,none⟩ (.slice a2 (r.length - k) c2)=W4 at HF4 ⊢
     go_roundg (r.drop k).length
     case measure=>rw[HG.out,List.length_drop];omega
     case rel=>exact ⟨r.drop k,pre++[(k,x0)],a2,c2,rfl,by rw[List.length_drop];omega,by rw[List.length_drop];exact HCP.out.1,HCP.out.2,HP2,HV4,HF4⟩
end Go.Proofs.YtgmdimbiipemhaaGreatDoor
namespace Go.Proofs.YtgmdimbiipemhaaGreatDoor
open Go.RowKit
attribute [local go_sem] Oper.semAt_some
theorem Z0d (v:Value) (l:List Bool) (w:World) (h:Z0 btc 1 w v l) (hn:l.length≤1000000000000):Calls Tryz.prog 97 #[v] w fun e w'=>Xv w (Yu l) e w':=by
 obtain ⟨va,vc,rfl,hcap,hmax,hcs⟩:=id h
 unfold maxLen at hmax
 have HL:=Jh (WA (l:=l) (by omega))
 refine (callsIn_wide (n:=5)).1 ?_
 refine callsIn_of_wp_marks Tryz.func97 rfl trivial ?_ rfl
 simp only[Tryz.ntmps97,List.size_toArray,List.length_cons,List.length_nil,Nat.reduceAdd,Nat.reduceSub,Array.replicate_succ,Array.replicate_zero,List.push_toArray,List.append_toArray,List.nil_append,List.cons_append]
 gi_wp2
 refine ⟨trivial,?_⟩
 refine (callsIn_wide.2 (Z2g va l.length vc _)).mono ?_
 rintro e w' ⟨rfl,rfl⟩
 gi_wp2
 have hB0:Below w.heap.size w ((w.alloc (.cells #[.slice none 0 0] 22)).alloc (.cells #[.slice va l.length vc] 75)):=((Below.refl _ _).alloc (Nat.le_refl _) _).alloc (by simp) _
 have z0:((w.alloc (.cells #[.slice none 0 0] 22)).alloc (.cells #[.slice va l.length vc] 75)).heap.size=w.heap.size+2:=by simp
 have o0:((w.alloc (.cells #[.slice none 0 0] 22)).alloc (.cells #[.slice va l.length vc] 75)).heap[w.heap.size]?=some (.cells #[.slice none 0 0] 22 (0,0)):=by
  rw[Below.heap_alloc _ _ _ (by simp)]
  exact World.alloc_heap_new w _
 have s0:((w.alloc (.cells #[.slice none 0 0] 22)).alloc (.cells #[.slice va l.length vc] 75)).heap[w.heap.size+1]?=some (.cells #[.slice va l.length vc] 75 (0,0)):=by
  have:=World.alloc_heap_new (w.alloc (.cells #[.slice none 0 0] 22)) (.cells #[.slice va l.length vc] 75)
  rwa [World.size_alloc] at this
 generalize ((w.alloc (.cells #[.slice none 0 0] 22)).alloc (.cells #[.slice va l.length vc] 75))=W0 at *
 have hl0:=h.below hB0
 refine Z0p (U:=Nat × Bool) (by omega) (gf:=179) (lb:=#[.pointer (some ⟨w.heap.size+1,0,none⟩)]) rfl (enters_of Tryz.func179 (by kernel_rfl) rfl)
  (fun x:Nat × Bool=>#[.int .i64 x.1,.bool x.2]) (fun _=>rfl) (fun k=>k=w.heap.size∨W0.heap.size+1<k) (·=w.heap.size+1) (fun k e=>by omega) (fun k e=>by omega) (ZY l)
  (fun pre A=>∃ v,A.heap[w.heap.size]?=some (.cells #[v] 22 (0,0))∧Own u8c 1 5 (w.heap.size+4) A v (Xy pre)∧Ext (fun k=>k=w.heap.size∨k=w.heap.size+1) W0 A)
  (fun pre A A' hh hx=>?_)
  (Z0y 4 (by omega) (w.heap.size+1) _ l (fun k=>k=w.heap.size∨W0.heap.size+1<k) W0 hl0 s0 (by omega) (fun hne b o m c e=>?_)) ⟨_,o0,Own.nil,Ext.refl _ _⟩ ?_ ?_
 ·obtain ⟨v,h1,h2,h3⟩:=hh
  have hlt:=(Array.getElem?_eq_some_iff.1 h1).1
  exact ⟨v,(hx.block _ hlt (by omega)).trans h1,h2.ext hx (fun b hb e=>by have:=(h2.blk b hb).1;omega),h3.andThen hx (fun i hi e=>by omega)⟩
 ·cases e
  obtain ⟨b',o',e2,h5⟩:=hcs hne
  cases e2
  obtain ⟨x,hx⟩:∃ x,l[0]?=some x:=by
   cases l with
   | nil=>exact absurd rfl hne
   | cons x r=>exact ⟨x,rfl⟩
  have:=Zq (h5 0 x hx 0 _ rfl)
  refine ⟨?_,?_,?_⟩ <;> omega
 ·rintro lb pre x A ⟨v,ho,hown,hx⟩ hpx hlt
  have HLE:=Jh (Z7Y hpx)
  obtain ⟨hx1,hx2,hx3⟩:=Z1G _ l rfl x (hpx.mem (List.mem_append_right pre (List.mem_singleton.2 rfl)))
  obtain ⟨k,y⟩:=x
  dsimp only at hx1 hx2 hx3 ⊢
  gi_wp2
  refine ⟨Ext.refl _ _,⟨v,ho,hown,hx⟩,fun W2 ⟨v2,ho2,hown2,hxW2⟩ hxx=>?_⟩
  obtain ⟨⟨va2,vn2,vc2⟩,e2⟩:=hown2.sl
  dsimp only at e2
  subst e2
  have hk64:k<18446744073709551616:=by omega
  have hsz2:=hxW2.size
  have hsz3:=hxx.size
  have hvn:vn2=(Xy pre).length:=(hown2.nlen Z7).1
  have hkw:IntKind.u64.wrap (k:Int)=(k:Int):=by rw[Yc];omega
  have hxA:Ext (fun k=>k=w.heap.size∨W0.heap.size+1<k) W2 W2:=Ext.refl _ _
  have hb2:=cell_of_one ho2
  cases y with
  | false =>
   have HOUT:Hid (Xy (pre++[(k,false)])=Xy pre++Z5 k):=Jh (by rw[Rn];simp)
   clear ho hown hx hxx hvn
   have HF:Hid (W2.drew.heap[w.heap.size]?=some (.cells #[.slice va2 vn2 vc2] 22 (0,0))∧Own u8c 1 5 (w.heap.size+4) W2.drew (.slice va2 vn2 vc2) (Xy pre)∧Ext (fun k=>k=w.heap.size∨k=w.heap.size+1) W0 W2.drew∧Ext (fun k=>k=w.heap.size∨W0.heap.size+1<k) W2 W2.drew):=Lib.hid ⟨ho2,hown2,(hxW2).drew,(hxA).drew⟩
   have hS0:(fun W:World=>W.cell? ⟨w.heap.size,0,none⟩=some (.slice va2 vn2 vc2)) W2.drew:=cell_of_one ho2
   have hszd:W2.heap.size≤W2.drew.heap.size:=(hxA).size
   gi_upto_region 7 with fail
   refine Vt (fun W:World=>W.cell? ⟨w.heap.size,0,none⟩=some (.slice va2 vn2 vc2)) (fun i=>i == 5) (by kernel_rfl) (by kernel_rfl) ?_ ?_
   ·rintro ⟨_,_,h⟩;exact h
   generalize W2.drew=W3 at hS0 HF hszd ⊢
   refine J0 0 19 ((.slice va2 vn2 vc2)) hS0 ?_
   try simp only[Ja]
   refine J0 1 20 (.int .i64 k) hS0 ?_
   try simp only[Ja]
   refine J0 2 21 (.int .u64 k) hS0 ?_
   try simp only[Ja]
   refine Zm (i:=3) (d:=some 22) (f:=64) (args:=#[.int .u64 k]) (w':=W3) (by kernel_rfl) rfl rfl (by rfl) (by go_simp;try rfl) ?_
   refine (UE k _ hk64).mono ?_
   rintro e w5 ⟨v5,rfl,hown5,b5⟩
   have hS5:w5.cell? ⟨w.heap.size,0,none⟩=some (.slice va2 vn2 vc2):=Y9 b5 hS0
   refine ⟨_,rfl,fun _=>hS5,?_⟩
   try simp only[Ja]
   have hlen:(Xy pre).length+(Z5 k).length≤140737488355328:=by
    have h1:=HLE.out
    rw[HOUT.out,←VS l] at h1
    have h2:=HL.out
    simp only[List.length_append] at h1 ⊢
    omega
   have hb35:Below (w.heap.size+4) W3 w5:=b5.mono (by omega)
   obtain ⟨⟨ua,un,uc⟩,w9,hr9,own9,b9,hsz9⟩:=ZF (HF.out.2.1.below1 b5) hb35 (hown5.slice Z7) (by have:=b5.size;omega) hlen
   have hS9:w9.cell? ⟨w.heap.size,0,none⟩=some (.slice va2 vn2 vc2):=WJ b9 hS0 (by omega)
   refine Zk (i:=4) (d:=some 23) (v:=.slice ua un uc) (w':=w9) (by kernel_rfl) rfl rfl (by rfl) (Xp rfl rfl rfl hr9) (fun _=>hS9) ?_
   try simp only[Ja]
   have ho9:w9.heap[w.heap.size]?=some (.cells #[.slice va2 vn2 vc2] 22 (0,0)):=(b9.block _ (by omega)).trans HF.out.1
   have f9:=free_of_one ho9
   refine Zn (i:=5) (d:=none) (w':=w9.setCell ⟨w.heap.size,0,none⟩ (.slice ua un uc)) (by kernel_rfl) rfl rfl (by rfl) (by go_simp;try rfl) (fun h=>by cases h) ?_
   try simp only[Ja]
   refine Z3 (by kernel_rfl) ?_ _
   have hx10:Ext (·=w.heap.size) w9 (w9.setCell ⟨w.heap.size,0,none⟩ (.slice ua un uc)):=(Ext.refl (·=w.heap.size) w9).setCell (p:=⟨w.heap.size,0,none⟩) (.inr rfl) (.slice ua un uc)
   have hE9:Ext (fun k=>w.heap.size+4≤k) W3 w9:=Vr b9
   refine ⟨⟨_,one_setCell ho9,?_,?_⟩,?_⟩
   ·rw[HOUT.out]
    exact own9.ext hx10 (fun b hb e=>by have:=(own9.blk b hb).1;omega)
   ·exact (HF.out.2.2.1.andThen hE9 (fun i hi e=>by omega)).andThen hx10 (fun i hi e=>.inl e)
   ·exact (HF.out.2.2.2.andThen (S:=fun k=>k=w.heap.size∨W0.heap.size+1<k) hE9 (fun i hi e=>.inr (by omega))).andThen hx10 (fun i hi e=>.inl e)
  | true =>
   by_cases hp:pre=[]
   ·subst hp
    have hv0:vn2=0:=by rw[hvn];rfl
    have hv1:((vn2:Int) == 0)=true:=by rw[hv0];rfl
    have HOUT:Hid (Xy ([]++[(k,true)])=[0]++Z5 k):=Jh (by rw[Rn];simp[Xy])
    obtain ⟨i0,hi,hz0,hz1,hz2⟩:=info_parts YO
    have f2:=free_of_one ho2
    have hnw:∀ j u,(u8c 0)[j]?=some u→(W2.alloc (.cells #[.int .u8 0] 5)).cell? ⟨W2.heap.size,j,none⟩=some u:=Rd W2 0
    clear ho hown hx hxx hvn hv0
    gi_wp2_with (gi_at_builtin;refine TN rfl _ _ _ rfl i0 _ 1 Tryz.underlying22 hi hz0 hz1 hz2 rfl (by omega) Z7 Wt rfl (hown2.alloc _) (0:UInt8) W2.heap.size 1 rfl hnw (by simp[Xy];unfold maxLen;omega) (by simp[Xy]) (by simp;omega) ?_)
    intro v' w4 hown4 hx4
    obtain ⟨⟨va3,vn3,vc3⟩,e4⟩:=hown4.sl
    dsimp only at e4
    subst e4
    have hne4:∀ b,(Value.slice va2 vn2 vc2).ownBlock=some b→w.heap.size+4≤b:=fun b hb=>(hown2.blk b hb).1
    have hlt2:=(Array.getElem?_eq_some_iff.1 ho2).1
    have ho4:w4.heap[w.heap.size]?=some (.cells #[.slice va2 vn2 vc2] 22 (0,0)):=(hx4.block _ (by simp;omega) (fun e=>by have:=hne4 _ e;omega)).trans ((Below.heap_alloc _ _ _ hlt2).trans ho2)
    have c4:=cell_of_one ho4
    have f4:=free_of_one ho4
    have hx5:Ext (·=w.heap.size) w4 (w4.setCell ⟨w.heap.size,0,none⟩ (.slice va3 vn3 vc3)):=(Ext.refl (·=w.heap.size) w4).setCell (p:=⟨w.heap.size,0,none⟩) (.inr rfl) (.slice va3 vn3 vc3)
    have r1:=one_setCell (u:=.slice va3 vn3 vc3) ho4
    have r2:Own u8c 1 5 (w.heap.size+4) (w4.setCell ⟨w.heap.size,0,none⟩ (.slice va3 vn3 vc3)) (.slice va3 vn3 vc3) [0]:=hown4.ext hx5 (fun b hb e=>by have:=(hown4.blk b hb).1;omega)
    have r3:Ext (fun k=>k=w.heap.size∨k=w.heap.size+1) W0 (w4.setCell ⟨w.heap.size,0,none⟩ (.slice va3 vn3 vc3)):=((hxW2.alloc _).andThen hx4 (fun i hi e=>by have:=hne4 _ e;omega)).andThen hx5 (fun i hi e=>.inl e)
    have r4:Ext (fun k=>k=w.heap.size∨W0.heap.size+1<k) W2 (w4.setCell ⟨w.heap.size,0,none⟩ (.slice va3 vn3 vc3)):=((hxA.alloc _).andThen (S:=fun k=>k=w.heap.size∨W0.heap.size+1<k) hx4 (fun i hi e=>by have:=hne4 _ e;omega)).andThen hx5 (fun i hi e=>.inl e)
    have R:=Jh (And.intro r1 (And.intro r2 (And.intro r3 r4)))
    clear r1 r2 r3 r4 hx5 hx4 hown4 hown2 ho2 hxW2 hb2 f2 hnw hne4 hv1
    gi_wp2
    generalize w4.setCell ⟨w.heap.size,0,none⟩ (.slice va3 vn3 vc3)=W5 at R ⊢
    obtain ⟨r1,r2,r3,r4⟩:=R.out
    clear R ho4 c4 f4
    have HF:Hid (W5.drew.heap[w.heap.size]?=some (.cells #[.slice va3 vn3 vc3] 22 (0,0))∧Own u8c 1 5 (w.heap.size+4) W5.drew (.slice va3 vn3 vc3) ([0])∧Ext (fun k=>k=w.heap.size∨k=w.heap.size+1) W0 W5.drew∧Ext (fun k=>k=w.heap.size∨W0.heap.size+1<k) W2 W5.drew):=Lib.hid ⟨r1,r2,(r3).drew,(r4).drew⟩
    have hS0:(fun W:World=>W.cell? ⟨w.heap.size,0,none⟩=some (.slice va3 vn3 vc3)) W5.drew:=cell_of_one r1
    have hszd:W2.heap.size≤W5.drew.heap.size:=(r4).size
    gi_upto_region 7 with fail
    refine Vt (fun W:World=>W.cell? ⟨w.heap.size,0,none⟩=some (.slice va3 vn3 vc3)) (fun i=>i == 5) (by kernel_rfl) (by kernel_rfl) ?_ ?_
    ·rintro ⟨_,_,h⟩;exact h
    generalize W5.drew=W3 at hS0 HF hszd ⊢
    refine J0 0 19 ((.slice va3 vn3 vc3)) hS0 ?_
    try simp only[Ja]
    refine J0 1 20 (.int .i64 k) hS0 ?_
    try simp only[Ja]
    refine J0 2 21 (.int .u64 k) hS0 ?_
    try simp only[Ja]
    refine Zm (i:=3) (d:=some 22) (f:=64) (args:=#[.int .u64 k]) (w':=W3) (by kernel_rfl) rfl rfl (by rfl) (by go_simp;try rfl) ?_
    refine (UE k _ hk64).mono ?_
    rintro e w5 ⟨v5,rfl,hown5,b5⟩
    have hS5:w5.cell? ⟨w.heap.size,0,none⟩=some (.slice va3 vn3 vc3):=Y9 b5 hS0
    refine ⟨_,rfl,fun _=>hS5,?_⟩
    try simp only[Ja]
    have hlen:([0]).length+(Z5 k).length≤140737488355328:=by
     have h1:=HLE.out
     rw[HOUT.out,←VS l] at h1
     have h2:=HL.out
     simp only[List.length_append] at h1 ⊢
     omega
    have hb35:Below (w.heap.size+4) W3 w5:=b5.mono (by omega)
    obtain ⟨⟨ua,un,uc⟩,w9,hr9,own9,b9,hsz9⟩:=ZF (HF.out.2.1.below1 b5) hb35 (hown5.slice Z7) (by have:=b5.size;omega) hlen
    have hS9:w9.cell? ⟨w.heap.size,0,none⟩=some (.slice va3 vn3 vc3):=WJ b9 hS0 (by omega)
    refine Zk (i:=4) (d:=some 23) (v:=.slice ua un uc) (w':=w9) (by kernel_rfl) rfl rfl (by rfl) (Xp rfl rfl rfl hr9) (fun _=>hS9) ?_
    try simp only[Ja]
    have ho9:w9.heap[w.heap.size]?=some (.cells #[.slice va3 vn3 vc3] 22 (0,0)):=(b9.block _ (by omega)).trans HF.out.1
    have f9:=free_of_one ho9
    refine Zn (i:=5) (d:=none) (w':=w9.setCell ⟨w.heap.size,0,none⟩ (.slice ua un uc)) (by kernel_rfl) rfl rfl (by rfl) (by go_simp;try rfl) (fun h=>by cases h) ?_
    try simp only[Ja]
    refine Z3 (by kernel_rfl) ?_ _
    have hx10:Ext (·=w.heap.size) w9 (w9.setCell ⟨w.heap.size,0,none⟩ (.slice ua un uc)):=(Ext.refl (·=w.heap.size) w9).setCell (p:=⟨w.heap.size,0,none⟩) (.inr rfl) (.slice ua un uc)
    have hE9:Ext (fun k=>w.heap.size+4≤k) W3 w9:=Vr b9
    refine ⟨⟨_,one_setCell ho9,?_,?_⟩,?_⟩
    ·rw[HOUT.out]
     exact own9.ext hx10 (fun b hb e=>by have:=(own9.blk b hb).1;omega)
    ·exact (HF.out.2.2.1.andThen hE9 (fun i hi e=>by omega)).andThen hx10 (fun i hi e=>.inl e)
    ·exact (HF.out.2.2.2.andThen (S:=fun k=>k=w.heap.size∨W0.heap.size+1<k) hE9 (fun i hi e=>.inr (by omega))).andThen hx10 (fun i hi e=>.inl e)
   ·have hv0:¬ vn2=0:=by rw[hvn];exact fun e=>Z7M hp (List.eq_nil_of_length_eq_zero e)
    have hv1:((vn2:Int) == 0)=false:=by simpa using hv0
    have HOUT:Hid (Xy (pre++[(k,true)])=Xy pre++Z5 k):=Jh (by rw[Rn,if_neg (fun e=>hp e.2)])
    clear ho hown hx hxx hvn hv0
    have HF:Hid (W2.drew.heap[w.heap.size]?=some (.cells #[.slice va2 vn2 vc2] 22 (0,0))∧Own u8c 1 5 (w.heap.size+4) W2.drew (.slice va2 vn2 vc2) (Xy pre)∧Ext (fun k=>k=w.heap.size∨k=w.heap.size+1) W0 W2.drew∧Ext (fun k=>k=w.heap.size∨W0.heap.size+1<k) W2 W2.drew):=Lib.hid ⟨ho2,hown2,(hxW2).drew,(hxA).drew⟩
    have hS0:(fun W:World=>W.cell? ⟨w.heap.size,0,none⟩=some (.slice va2 vn2 vc2)) W2.drew:=cell_of_one ho2
    have hszd:W2.heap.size≤W2.drew.heap.size:=(hxA).size
    gi_upto_region 7 with fail
    refine Vt (fun W:World=>W.cell? ⟨w.heap.size,0,none⟩=some (.slice va2 vn2 vc2)) (fun i=>i == 5) (by kernel_rfl) (by kernel_rfl) ?_ ?_
    ·rintro ⟨_,_,h⟩;exact h
    generalize W2.drew=W3 at hS0 HF hszd ⊢
    refine J0 0 19 ((.slice va2 vn2 vc2)) hS0 ?_
    try simp only[Ja]
    refine J0 1 20 (.int .i64 k) hS0 ?_
    try simp only[Ja]
    refine J0 2 21 (.int .u64 k) hS0 ?_
    try simp only[Ja]
    refine Zm (i:=3) (d:=some 22) (f:=64) (args:=#[.int .u64 k]) (w':=W3) (by kernel_rfl) rfl rfl (by rfl) (by go_simp;try rfl) ?_
    refine (UE k _ hk64).mono ?_
    rintro e w5 ⟨v5,rfl,hown5,b5⟩
    have hS5:w5.cell? ⟨w.heap.size,0,none⟩=some (.slice va2 vn2 vc2):=Y9 b5 hS0
    refine ⟨_,rfl,fun _=>hS5,?_⟩
    try simp only[Ja]
    have hlen:(Xy pre).length+(Z5 k).length≤140737488355328:=by
     have h1:=HLE.out
     rw[HOUT.out,←VS l] at h1
     have h2:=HL.out
     simp only[List.length_append] at h1 ⊢
     omega
    have hb35:Below (w.heap.size+4) W3 w5:=b5.mono (by omega)
    obtain ⟨⟨ua,un,uc⟩,w9,hr9,own9,b9,hsz9⟩:=ZF (HF.out.2.1.below1 b5) hb35 (hown5.slice Z7) (by have:=b5.size;omega) hlen
    have hS9:w9.cell? ⟨w.heap.size,0,none⟩=some (.slice va2 vn2 vc2):=WJ b9 hS0 (by omega)
    refine Zk (i:=4) (d:=some 23) (v:=.slice ua un uc) (w':=w9) (by kernel_rfl) rfl rfl (by rfl) (Xp rfl rfl rfl hr9) (fun _=>hS9) ?_
    try simp only[Ja]
    have ho9:w9.heap[w.heap.size]?=some (.cells #[.slice va2 vn2 vc2] 22 (0,0)):=(b9.block _ (by omega)).trans HF.out.1
    have f9:=free_of_one ho9
    refine Zn (i:=5) (d:=none) (w':=w9.setCell ⟨w.heap.size,0,none⟩ (.slice ua un uc)) (by kernel_rfl) rfl rfl (by rfl) (by go_simp;try rfl) (fun h=>by cases h) ?_
    try simp only[Ja]
    refine Z3 (by kernel_rfl) ?_ _
    have hx10:Ext (·=w.heap.size) w9 (w9.setCell ⟨w.heap.size,0,none⟩ (.slice ua un uc)):=(Ext.refl (·=w.heap.size) w9).setCell (p:=⟨w.heap.size,0,none⟩) (.inr rfl) (.slice ua un uc)
    have hE9:Ext (fun k=>w.heap.size+4≤k) W3 w9:=Vr b9
    refine ⟨⟨_,one_setCell ho9,?_,?_⟩,?_⟩
    ·rw[HOUT.out]
     exact own9.ext hx10 (fun b hb e=>by have:=(own9.blk b hb).1;omega)
    ·exact (HF.out.2.2.1.andThen hE9 (fun i hi e=>by omega)).andThen hx10 (fun i hi e=>.inl e)
    ·exact (HF.out.2.2.2.andThen (S:=fun k=>k=w.heap.size∨W0.heap.size+1<k) hE9 (fun i hi e=>.inr (by omega))).andThen hx10 (fun i hi e=>.inl e)
 ·rintro A ⟨v,ho,hown,hx⟩ hK
  have hc:A.cell? ⟨w.heap.size,0,none⟩=some v:=by simp[World.cell?,ho]
  have HX:=Lib.hid hx
  have HW:=Jh (hx.size)
  have HK:=Lib.hid hK
  have HOWN:=Lib.hid hown
  have HB0:=Lib.hid hB0
  have HE:=Jh (VS l)
  clear ho hx hK hown hB0 hl0 o0 s0 h
  gi_wp2
  have hx7:Ext (·=W0.heap.size) A (A.putObj W0.heap.size (.deferred none)):=YW _ _ _
  have hsz:=HW.out
  refine ⟨by simp,.inl ⟨_,_,rfl,run_takeDeferred HK.out,?_⟩⟩
  refine ⟨_,results_tmp rfl _ _ _,v,rfl,?_,?_⟩
  ·rw[HE.out]
   exact (HOWN.out.ext hx7 (fun b hb e=>by have:=(HOWN.out.blk b hb).1;omega)).mono (by omega)
  ·exact Ext.new (Ext.new HB0.out HX.out (fun i hi _ e=>by omega) (by omega)) hx7 (fun i hi _ e=>by omega) (by omega)
end Go.Proofs.YtgmdimbiipemhaaGreatDoor
