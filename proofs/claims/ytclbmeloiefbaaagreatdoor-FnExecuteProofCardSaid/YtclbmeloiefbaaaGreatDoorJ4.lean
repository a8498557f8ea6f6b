/- Parts of the framework and of the proof: The framework, part ha: loops over functions: yield's contract out of the body's walk, and the statement; The framework, part hb: a region in which two variables are made, either of them ahead of the other; The cuts of a part, and the first one, gone through; What comes of parts along first cuts, gone through; Is a plan cuttable: the program, gone through; The lines of a script, gone through: what makes them, and both tables; Plans that are cut, in plain words; Orders of two rooms, gone through; Texts put together with a sign between them, and taken apart again; Plans with signs between their rows; the lines plan and cut, gone through; strings.Count of the sign /, in the model's own words; Texts split at a sign, gone through; The text of a plan, and the line plan of a script, as rows of their own, gone through; A script of one line, gone through; What holds of all arguments holds of frozen ones; The framework: what a call leaves is frozen from some object on; a call freezes all that there is; A script of a plan and of a line about it, gone through; The framework, part z: a region in which the bytes of a text become a new row that is written later; Drawing: the reader, gone through; Plans cut in two, gone through. -/
import Derived.Test.YtclbmeloiefbaaaGreatDoorJ1
import Derived.Test.YtclbmeloiefbaaaGreatDoorJ3
import Derived.Test.YtclbmeloiefbaaaGreatDoorJ2
import Derived.Lib.Bytealg
import Derived.Lib.Walk
import Derived.WalkKit
import Derived.Laws.Externs
import Derived.Lib.ConvBytes
set_option linter.all false
namespace Go.Proofs.YtclbmeloiefbaaaGreatDoor
namespace Fw
open Go
open Nat renaming reduceEqDiff → qE, reduceLeDiff → qL, reduceAdd → qA, reduceMul → qM, le_refl → qR
open List renaming append_nil → qN, mapM_append → qP, mapM_cons → qC, mapM_map → qU, range_succ → qS, take_of_length_le → qT
open Bool renaming and_eq_true → qB, false_eq_true → qF
open Option renaming map_some → qO, map_eq_some_iff → qI
open Int renaming reduceToNat → qZ
section
structure LoopR (ps:Array Tmp) (asg body:Code) (r:Loop):Prop where
 hps:r.params=ps
 hasg:r.assign=asg
 hbody:r.body=body
 dps:∀ t∈ps.toList,t<r.tmps.size
 dasg:zg2 r.tmps.size asg=true
 dbody:zg2 r.tmps.size body=true
def Env.puts:List (Nat × PV)→Env→Env
 | [],e=>e
 | (t,v)::r,e=>Env.puts r (e.put (some t) v)
section
variable {P:Program} {T:Tab} {Q Q':Exit→Env→Store→Prop} {e:Env} {S:Store} {a b c:Code} {F:Nat→Prop} {G:GSt} {w:World}
theorem zwv {ds:List Deferred}:∀ (ps:List Nat) (xs:List PV) (cs:List Value) (e:Env) (t:Array Value),zei w.heap F G e ⟨t,ds⟩→(∀ p∈ps,p<t.size)→xs.length=cs.length →
  (∀ (i:Nat) p c,xs[i]?=some p→cs[i]?=some c→VR w.heap F G p c) →
  zei w.heap F G (Env.puts (ps.zip xs) e) ⟨(ps.zip cs).foldl (fun t (q:Nat × Value)=>t.setIfInBounds q.1 q.2) t,ds⟩
 | [],xs,cs,e,t,he,_,_,_=>by simpa [Env.puts] using he
 | p::ps,[],[],e,t,he,_,_,_=>by simpa [Env.puts] using he
 | p::ps,x::xs,c::cs,e,t,he,hp,hl,hv=>by
  simp only[List.zip_cons_cons,Env.puts,List.foldl_cons]
  refine zwv ps xs cs _ _ ?_ ?_ (by simpa using hl) fun i p c q1 q2=>hv (i+1) p c (by simpa using q1) (by simpa using q2)
  ·have:=he.put (a:=⟨t,ds⟩) (some p) (v:=x) (cv:=c) (fun t' ht=>by cases ht; exact hp p (by simp)) (hv 0 x c rfl rfl)
   exact this
  intro q hq
  have:=hp q (by simp [hq])
  simpa using this
 | p::ps,[],c::cs,_,_,_,_,hl,_=>by simp at hl
 | p::ps,x::xs,[],_,_,_,_,hl,_=>by simp at hl
theorem z3g (l:List (Nat × Value)) (t:Array Value):(l.foldl (fun t (q:Nat × Value)=>t.setIfInBounds q.1 q.2) t).size=t.size:=by
 induction l generalizing t with
 | nil=>rfl
 | cons q l ih=>simp [ih]
theorem z69 (hi:Inv F G w) {o ver l:Nat} {r:Loop × List Nat} {tm:List PV} {lc:Lc} (ho:G.obs[o]?=some (.lp ver l r tm,lc)) (s:LoopState) (pe:Option Code) :
  ∃ t:Array Value,w.heap[l]?=some (.loop { r.1 with tmps:=t }) ∧
   Inv F ⟨G.obs.set o (.lp ver l ({ r.1 with state:=s,pending:=pe },r.2) tm,lc),G.tick⟩ (w.putObj l (.loop { r.1 with tmps:=t,state:=s,pending:=pe })) ∧
   Next F G w F ⟨G.obs.set o (.lp ver l ({ r.1 with state:=s,pending:=pe },r.2) tm,lc),G.tick⟩ (w.putObj l (.loop { r.1 with tmps:=t,state:=s,pending:=pe })):=by
 obtain ⟨h0,t,h1,h2,h3⟩:=hi.lp o ver l r tm lc ho
 have hlt:=(Array.getElem?_eq_some_iff.1 h1).1
 refine ⟨t,h1,zig hi ho _ lc G.tick _ rfl rfl rfl (qR _) (by simp) (.inl rfl) (fun b hb hne=>World.putObj_heap_other (by rw [← h0]; exact hne)) (qR _) (show Ob.ver (.lp ver l r tm)<G.tick from hi.ver o _ lc ho)
  (.inl ⟨rfl,trivial,rfl⟩) ⟨h0,t,World.putObj_heap_same hlt,h2,h3⟩⟩
def ydw (o l:Nat) (J:PV→Store→Prop):Exit→Env→Store→Prop
 | .normal,_,S=>∃ ver r L tm k,S.obs[o]?=some (.lp ver l (r,L) tm)∧J (.bool true) (Store.take ⟨S.obs.set o (.lp ver l ({ r with state := .ready,pending:=none },L) tm),S.tick⟩ k)
 | .ret,_,S=>∃ ver r L tm k,S.obs[o]?=some (.lp ver l (r,L) tm)∧J (.bool false) (Store.take ⟨S.obs.set o (.lp ver l ({ r with state := .done,pending:=some .ret },L) tm),S.tick⟩ k)
 | .exit id,_,S=>∃ ver r L tm k,S.obs[o]?=some (.lp ver l (r,L) tm)∧J (.bool false) (Store.take ⟨S.obs.set o (.lp ver l ({ r with state := .done,pending:=some (.exit id) },L) tm),S.tick⟩ k)
 | _,_,_=>False
theorem VR.bool_of {H:Array Obj} {b:Bool}:VR H F G (.bool b) (.bool b) := .imm _ _ (.bool b)
theorem Ey.of (hT:zbd P T) (hm:P.follows .mixedOrders=true) {l o ver:Nat} {r:Loop} {L:List Nat} {tm xs:List PV} {ps:Array Tmp} {asg body:Code} {J:PV→Store→Prop}
  (ho:S.obs[o]?=some (.lp ver l (r,L) tm)) (hr:LoopR ps asg body r) (hst:r.state = .ready) (hps:ps.size=xs.length)
  (hw:W P T asg (XThen (fun e1 S1=>∃ ver1 r1 L1 tm1,S1.obs[o]?=some (.lp ver1 l (r1,L1) tm1)∧r1.state = .ready ∧
   W P T body (ydw o l J) e1 ⟨S1.obs.set o (.lp ver1 l ({ r1 with state := .busy,pending:=r1.pending },L1) tm1),S1.tick⟩) (fun _ _ _=>False)) (Env.puts (ps.toList.zip xs) (Env.of L tm)) S) :
  Ey P l xs S J:=by
 refine ⟨fun F G w cargs hS hi hl hv=>?_⟩
 subst hS
 obtain ⟨lc,hG⟩:=zex ho
 obtain ⟨h0,t,h1,⟨h2,h2'⟩,h3⟩:=hi.lp o ver l (r,L) tm lc hG
 simp only at h1 h2 h2' h3
 refine ⟨_,_,_,_,run_yield h1 (by simp only; rw [hr.hps]; omega),fun R nn=>?_⟩
 refine roundIn_of_wpIn trivial ?_
 simp only
 have hE:zei w.heap F G (Env.puts (ps.toList.zip xs) (Env.of L tm)) ⟨(ps.toList.zip cargs.toList).foldl (fun t (q:Nat × Value)=>t.setIfInBounds q.1 q.2) t,[]⟩ :=
  zwv _ _ _ _ _ (zve L tm h2'.symm fun i j v q1 q2=>h3 i v j q2 q1) (fun p hp=>Nat.lt_of_lt_of_eq (hr.dps p hp) (congrArg Array.size h2).symm) (by simpa using hl) (fun i p c q1 q2=>hv i p c q1 (by simpa using q2))
 have hsz:((ps.toList.zip cargs.toList).foldl (fun t (q:Nat × Value)=>t.setIfInBounds q.1 q.2) t).size=r.tmps.size:=by rw [z3g]; exact congrArg Array.size h2
 have hfold:(r.params.zip cargs).foldl (fun tmps (x:Nat × Value)=>tmps.setIfInBounds x.1 x.2) t=(ps.toList.zip cargs.toList).foldl (fun t (q:Nat × Value)=>t.setIfInBounds q.1 q.2) t:=by
  rw [hr.hps,← Array.foldl_toList,Array.toList_zip]
 show (r.assign).wpIn (fnc (some l)) _ P _ { tmps:=(r.params.zip cargs).foldl (fun tmps (x:Nat × Value)=>tmps.setIfInBounds x.1 x.2) t,defers:=[] } w
 rw [hfold,hr.hasg,hr.hbody]
 refine wpIn_mono (hw.run hT hm F G w r.tmps.size F G _ w rfl hi hE (Next.refl w) hsz Marks.nil hr.dasg) ?_
 rintro x a1 w1 ⟨e1,F1,G1,k1,k2,k3,k4,k5,k6⟩
 cases x with
 | normal =>
  obtain ⟨ver1,r1,L1,tm1,g1,g2,g3⟩:=k1
  obtain ⟨lc1,hG1⟩:=zex g1
  obtain ⟨t1,q1,q2,q3⟩:=z69 k2 hG1 .busy r1.pending
  refine ⟨_,run_beginRound q1 g2,?_⟩
  refine wpIn_mono (g3.run hT hm F G w r.tmps.size F1 _ a1 _ (zjj G1 o _ lc1 G1.tick) q2 (k3.next k2 q3) (k4.trans q3) k5 (k6.next k2 q3) hr.dbody) ?_
  have fin:∀ {F2:Nat→Prop} {G2:GSt} {w2:World} {v:Bool} {s:LoopState} {pe:Option Code} {ver2:Nat} {r2:Loop} {L2:List Nat} {tm2:List PV} {k:Nat},Inv F2 G2 w2→Next F G w F2 G2 w2 →
    s=(if pe.isNone then .ready else .done)→v=pe.isNone→G2.er.obs[o]?=some (.lp ver2 l (r2,L2) tm2) →
    J (.bool v) (Store.take ⟨G2.er.obs.set o (.lp ver2 l ({ r2 with state:=s,pending:=pe },L2) tm2),G2.er.tick⟩ k) →
    ∃ cv w3,(Instr.endRound l pe).run P w2 = .ok cv w3∧∃ v cv' F' G',Ending.returned cv = .returned cv'∧J v G'.er∧Inv F' G' w3∧Next F G w F' G' w3∧VR w3.heap F' G' v cv':=by
   intro F2 G2 w2 v s pe ver2 r2 L2 tm2 k i2 n2 hs hv2 hg hJ
   obtain ⟨lc2,hG2⟩:=zex hg
   obtain ⟨t2,p1,p2,p3⟩:=z69 i2 hG2 s pe
   obtain ⟨i3,n3⟩:=zep p2 k
   have hrun:=run_endRound (P:=P) pe p1
   rw [← hs]at hrun
   refine ⟨_,_,hrun,.bool v,_,F2,GSt.take ⟨G2.obs.set o (.lp ver2 l ({ r2 with state:=s,pending:=pe },L2) tm2,lc2),G2.tick⟩ k,rfl,?_,i3,(n2.trans p3).trans n3,by rw [← hv2]; exact VR.bool_of⟩
   rw [zjz,zjj]; exact hJ
  rintro x a2 w2 ⟨e2,F2,G2,j1,j2,j3,j4,j5,j6⟩
  cases x with
  | normal=>obtain ⟨ver2,r2,L2,tm2,k,f1,f2⟩:=j1; exact fin j2 j4 rfl rfl f1 f2
  | ret=>obtain ⟨ver2,r2,L2,tm2,k,f1,f2⟩:=j1; exact fin j2 j4 rfl rfl f1 f2
  | exit id=>obtain ⟨ver2,r2,L2,tm2,k,f1,f2⟩:=j1; exact fin j2 j4 rfl rfl f1 f2
  | _=>exact j1.elim
 | _=>exact k1.elim
structure V (P:Program) (T:Tab) (c:Code) (Q:Exit→Env→Store→Prop) (e:Env) (S:Store):Prop where
 run:zbd P T→P.follows .mixedOrders=true→∀ (F0:Nat→Prop) (G0:GSt) (w0:World) (N:Nat) (F:Nat→Prop) (G:GSt) (a:Act) (w:World),G.er=S→Inv F G w→zei w.heap F G e a →
  Next F0 G0 w0 F G w→a.tmps.size=N→Marks w0 a.defers w→zg2 N c=true→c.wpIn (fnc none) 0 P (Sto F0 G0 w0 N Q) a w
theorem W.v (h:W P T c Q e S):V P T c Q e S:=⟨fun h1 h2 F0 G0 w0 N F G a w h3 h4 h5 h6 h7 h8 h9=>h.run h1 h2 F0 G0 w0 N F G a w h3 h4 h5 h6 h7 h8 h9⟩
theorem V.mono (h:V P T c Q e S) (k:∀ x e S,Q x e S→Q' x e S):V P T c Q' e S :=
 ⟨fun h1 h2 F0 G0 w0 N F G a w h3 h4 h5 h6 h7 h8 h9=>wpIn_mono (h.run h1 h2 F0 G0 w0 N F G a w h3 h4 h5 h6 h7 h8 h9) fun _ _ _=>Sto.mono k⟩
theorem V.seq (h:V P T a (XThen (V P T b Q) Q) e S):V P T (.seq a b) Q e S:=by
 refine ⟨?_⟩
 intro hT hm F0 G0 w0 N F G a w h3 h4 h5 h6 h7 h8 h9
 simp only[zg2,qB]at h9
 refine wpIn_seq (wpIn_mono (h.run hT hm F0 G0 w0 N F G a w h3 h4 h5 h6 h7 h8 h9.1) ?_)
 rintro x a' w' ⟨e',F',G',k1,k2,k3,k4,k5,k6⟩
 cases x with
 | normal=>exact k1.run hT hm F0 G0 w0 N F' G' a' w' rfl k2 k3 k4 k5 k6 h9.2
 | _=>exact ⟨e',F',G',k1,k2,k3,k4,k5,k6⟩
theorem V.seq_region {id:Nat} {l:List Oper} (h:∀ K:Env→Store→Prop,(∀ e S,V P T b Q e S→K e S)→za7 false P T (dsts l) l e S K):V P T (.seq (.region id l.toArray false) b) Q e S :=
 V.seq (W.v (W.k fun K hK=>h K hK))
theorem V.seq_draw {id:Nat} {l:List Oper} (hc:zlc l.toArray (List.range' 0 l.length) (zkz l 0) []=true) (h:∀ K:Env→Store→Prop,(∀ e S,V P T b Q e S→K e S)→za7 true P T (dsts l) l e S K) :
  V P T (.seq (.region id l.toArray true) b) Q e S :=
 V.seq (W.v (W.draw_k hc fun K hK=>h K hK))
theorem V.cond {x:Operand} {t:Bool} (hc:e.ev x = .bool t) (h1:t=true→V P T a Q e S) (h2:t=false→V P T b Q e S):V P T (.cond x a b) Q e S:=by
 refine ⟨?_⟩
 intro hT hm F0 G0 w0 N F G a w h3 h4 h5 h6 h7 h8 h9
 simp only[zg2,qB]at h9
 have:=h5.ev x
 rw [hc]at this
 exact wpIn_cond_split this.bool (fun ht=>(h1 ht).run hT hm F0 G0 w0 N F G a w h3 h4 h5 h6 h7 h8 h9.1) (fun ht=>(h2 ht).run hT hm F0 G0 w0 N F G a w h3 h4 h5 h6 h7 h8 h9.2)
theorem V.block {id:Nat} (h:V P T c (XBlock id Q) e S):V P T (.block id c) Q e S:=by
 refine ⟨?_⟩
 intro hT hm F0 G0 w0 N F G a w h3 h4 h5 h6 h7 h8 h9
 refine wpIn_block (wpIn_mono (h.run hT hm F0 G0 w0 N F G a w h3 h4 h5 h6 h7 h8 h9) ?_)
 rintro x a' w' ⟨e',F',G',k1,k2⟩
 cases x with
 | exit i =>
  simp only[Exit.inBlock]
  simp only[XBlock]at k1
  split
  ·rename_i hi; rw [if_pos hi]at k1; exact ⟨e',F',G',k1,k2⟩
  rename_i hi; rw [if_neg hi]at k1; exact ⟨e',F',G',k1,k2⟩
 | _=>exact ⟨e',F',G',k1,k2⟩
def ycs:Option Code→Option Exit
 | none=>some .normal
 | some .ret=>some .ret
 | some (.exit id)=>some (.exit id)
 | _=>none
theorem zy6 (hi:Inv F G w) (ob:Obj):Inv F G (w.alloc ob)∧Next F G w F G (w.alloc ob):=by
 have hkeep:∀ b,b<w.heap.size→(w.alloc ob).heap[b]?=w.heap[b]?:=fun b hb=>Go.RowKit.Below.heap_alloc w ob b hb
 have hn:Next F G w F G (w.alloc ob) :=
  ⟨rfl,rfl,rfl,by simp,fun _ h=>h,fun _ h => .inl h,fun o x h => .inr ⟨o,x,h,rfl⟩,qR _,fun b hb _=>hkeep b hb,fun _ ob' _ h _=>⟨ob',h,rfl,Ob.like.refl _⟩,qR _⟩
 exact ⟨zjn (fun b hb=>Nat.lt_of_lt_of_le (hi.fr b hb) hn.size) hi.ver hi.nF (fun o ob' l h=>(hi.holds h).next hi hn (hkeep _ (hi.blk_lt h))) hi.inj,hn⟩
theorem VR.fn_at {f:FuncId} {cap:List PV} {v:Value} (h:VR w.heap F G (.fn f cap) v):∃ vs:Array Value,v = .func (.func f) #[] vs∧cap.length=vs.size∧∀ (i:Nat) p c,cap[i]?=some p→vs[i]?=some c→VR w.heap F G p c:=by
 cases h with
 | imm _ _ h=>cases h with | fn _ _ vs h1 h2=>exact ⟨vs,rfl,h1,fun i p c q1 q2 => .imm _ _ (h2 i p c q1 q2)⟩
 | fn _ _ vs h1 h2=>exact ⟨vs,rfl,h1,h2⟩
theorem V.rangeFunc {g:Operand} {ps:Array Tmp} {asg body:Code} (L:List Nat) {f:FuncId} {cap:List PV} (hg:e.ev g = .fn f cap)
  (h:∀ (l:Nat) (r:Loop),LoopR ps asg body r→r.state = .ready→r.pending=none→∃ J,Ev P f (.yl l::cap) ⟨S.obs++[.lp S.tick l (r,L) (L.map e)],S.tick+1⟩ J ∧
   ∀ v S',J v S'→∃ ver r' L' tm x,S'.obs[S.obs.length]?=some (.lp ver l (r',L') tm)∧r'.state ≠ .busy∧ycs r'.pending=some x∧Q x e (S'.take S.obs.length)) :
  V P T (.rangeFunc g ps asg body) Q e S:=by
 refine ⟨?_⟩
 intro hT hm F0 G0 w0 N F G a w h3 h4 h5 h6 h7 h8 h9
 subst h3
 simp only[zg2,qB,List.all_eq_true,decide_eq_true_eq]at h9
 obtain ⟨⟨d1,d2⟩,d3⟩:=h9
 refine wpIn_rangeFunc ?_
 intro fn _
 obtain ⟨rec,hrec⟩:∃ rec:Loop,rec={ state := .ready,pending:=none,fn,tmps:=a.tmps,params:=ps,assign:=asg,body,defers:=w.heap.size }:=⟨_,rfl⟩
 obtain ⟨i1,n1⟩:=zy6 h4 (.deferred (some []))
 obtain ⟨W0,hW0⟩:∃ W0,w.alloc (.deferred (some []))=W0:=⟨_,rfl⟩
 have hsz:W0.heap.size=w.heap.size+1:=by rw [← hW0]; simp
 rw [hW0]at i1 n1
 have hdef:W0.heap[w.heap.size]?=some (.deferred (some [])):=by rw [← hW0]; exact World.alloc_heap_new w _
 obtain ⟨W1,hW1⟩:∃ W1,W0.alloc (.loop rec)=W1:=⟨_,rfl⟩
 have hL1:W1.heap[W0.heap.size]?=some (.loop rec):=by rw [← hW1]; exact World.alloc_heap_new W0 _
 have hhold:Holds W0.heap F G W1.heap (.lp G.tick W0.heap.size (rec,L) (L.map e)) ⟨W0.heap.size,0⟩:=by
  refine ⟨rfl,a.tmps,by rw [hL1,hrec],⟨by rw [hrec],by simp⟩,fun i p j q1 q2=>?_⟩
  simp only at q2
  rw [List.getElem?_map,q2]at q1
  cases q1
  exact (h5 j).next h4 n1
 obtain ⟨i2,n2⟩:=zpq i1 (.lp G.tick W0.heap.size (rec,L) (L.map e)) 0 W1 W1.drawn (by rw [← hW1]; rfl) (by rw [← hW1]; exact qR _) ⟨_,by rw [← hW1]; rfl⟩ rfl hhold
 have n12:=n1.trans n2
 have hgv:=h5.ev g
 rw [hg]at hgv
 obtain ⟨vs,hge,hvl,hvr⟩:=hgv.fn_at
 obtain ⟨J,hev,hJ⟩:=h W0.heap.size rec (by rw [hrec]; exact ⟨rfl,rfl,rfl,fun t ht=>by rw [h7]; exact d1 t ht,by rw [h7]; exact d2,by rw [h7]; exact d3⟩) (by rw [hrec]) (by rw [hrec])
 refine ⟨w.heap.size+1,[{ target := .collected w.heap.size,args := #[] }],W1,{ target := .fn (.func f) vs,args := #[.func (.yield (w.heap.size+1)) #[] #[]] },W1,f,
  #[.func (.yield (w.heap.size+1)) #[] #[]]++vs,W1,?_,?_,fun _ _=>trivial,?_,fun q=>(by simp [Fence.wide]at q),?_⟩
 ·rw [← hW1,← hW0,hrec]; exact run_enterLoop_outer _ _ _ _ _
 ·simp only[resolve,hge]
  simp [go_sem]
 ·simp only[invoke]; exact hev.ent _ _
 ·refine callsIn_wide.2 ((hev.run F _ W1 _ (zu0 G _ _) i2 (by simp; omega) ?_).mono ?_)
  ·intro i p c q1 q2
   cases i with
   | zero=>rw [Array.getElem?_append_left (by simp)]at q2; simp at q1 q2; subst q1; subst q2; rw [hsz]; exact .imm _ _ (.yl _)
   | succ i =>
    simp only[List.getElem?_cons_succ]at q1
    rw [Array.getElem?_append_right (by simp)]at q2
    simp at q2
    exact (hvr i p c q1 q2).next h4 n12
  ·rintro en w2 ⟨v,cv,F2,G2,rfl,j1,j2,j3,j4⟩
   obtain ⟨ver,r',L',tm,x,g1,g2,g3,g4⟩:=hJ v _ j1
   obtain ⟨lc,hG2⟩:=zex g1
   rw [show (GSt.er G).obs.length=G.obs.length by simp [GSt.er]]at hG2 g4
   obtain ⟨t,p1,p2,p3⟩:=z69 j2 hG2 .exhausted r'.pending
   obtain ⟨i3,n3⟩:=zep p2 G.obs.length
   rw [hsz]at p1
   refine ⟨_,_,run_endLoop p1 g2,?_⟩
   have hnx:=((h6.trans n12).trans (j3.trans p3)).trans n3
   have hmk:Marks w0 ([{ target := .collected w.heap.size,args := #[] }]++a.defers) (w2.putObj W0.heap.size (.loop { r' with tmps:=t,state := .exhausted,pending:=r'.pending })):=by
    have m1:=h8.next h4 n12
    have hd1:W1.heap[w.heap.size]?=some (.deferred (some [])):=(by rw [← hW1]; exact (Go.RowKit.Below.heap_alloc W0 _ _ (by omega)).trans hdef)
    have m2:Marks w0 ([{ target := .collected w.heap.size,args := #[] }]++a.defers) W1:=by
     obtain ⟨bs,b1,b2,b3⟩:=h8
     obtain ⟨bs',c1,c2,c3⟩:=m1
     have hb:bs'=bs:=by
      rw [b1]at c1
      have:=congrArg (List.map fun d:Deferred=>(match d.target with | .collected b=>b | _=>0)) c1
      simpa [List.map_map,Function.comp_def] using this.symm
     subst hb
     refine ⟨w.heap.size::bs',by rw [b1]; simp,?_,?_⟩
     ·refine List.nodup_cons.2 ⟨fun hm=>?_,b2⟩
      have:=(Array.getElem?_eq_some_iff.1 (b3 _ hm).2).1
      omega
     intro b hb
     rcases List.mem_cons.1 hb with rfl | hb
     ·exact ⟨h6.size,hd1⟩
     exact c3 b hb
    exact (m2.next i2 j3).next j2 p3
   have henv:zei (w2.putObj W0.heap.size (.loop { r' with tmps:=t,state := .exhausted,pending:=r'.pending })).heap F2 (GSt.take ⟨G2.obs.set G.obs.length (.lp ver W0.heap.size ({ r' with state := .exhausted,pending:=r'.pending },L') tm,lc),G2.tick⟩ G.obs.length) e { a with defers:=[{ target := .collected w.heap.size,args := #[] }]++a.defers } :=
    fun k=>((((h5 k).next h4 n12).next i2 j3).next j2 p3).next p2 n3
   have hst:Sto F0 G0 w0 N Q x { a with defers:=[{ target := .collected w.heap.size,args := #[] }]++a.defers } (w2.putObj W0.heap.size (.loop { r' with tmps:=t,state := .exhausted,pending:=r'.pending })):=by
    refine ⟨e,F2,_,?_,i3,henv,hnx,h7,hmk⟩
    have:(GSt.take ⟨G2.obs.set G.obs.length (.lp ver W0.heap.size ({ r' with state := .exhausted,pending:=r'.pending },L') tm,lc),G2.tick⟩ G.obs.length).er=G2.er.take G.obs.length:=by
     simp [GSt.take,GSt.er,Store.take,List.take_set_of_le]
    rw [this]; exact g4
   rw [hsz]at hst
   cases hpe:r'.pending with
   | none=>rw [hpe]at g3 hst ; simp only[ycs]at g3; cases g3; exact hst
   | some c =>
    rw [hpe]at g3 hst
    cases c <;> simp only[ycs]at g3 <;> cases g3
    ·exact wpIn_exit hst
    exact wpIn_ret hst
theorem Fn.callsV {f:FuncId} {fn:Func} (h:Fn P f fn c) (hT:zbd P T) (hm:P.follows .mixedOrders=true) {args:List PV} {K:PV→Store→Prop} (hn:args.length≤fn.ntmps)
  (hw:V P T c (zjd T fn.results.toList K) (zag args) S) {F:Nat→Prop} {G:GSt} {w:World} {cargs:Array Value} (hS:G.er=S) (hi:Inv F G w) (hl:args.length=cargs.size)
  (hv:∀ (i:Nat) p c,args[i]?=some p→cargs[i]?=some c→VR w.heap F G p c) :
  Calls P f cargs w fun e w'=>∃ v cv F' G',e = .returned cv∧K v G'.er∧Inv F' G' w'∧Next F G w F' G' w'∧VR w'.heap F' G' v cv :=
 h.calls_of hT hn hi hl (hw.run hT hm F G w fn.ntmps F G _ w hS hi (z4t hl hv _ _) (Next.refl w) (by simp; omega) Marks.nil h.dst)
theorem Ev.ofV {f:FuncId} {fn:Func} (h:Fn P f fn c) (hT:zbd P T) (hm:P.follows .mixedOrders=true) {args:List PV} {J:PV→Store→Prop} (hn:args.length≤fn.ntmps)
  (hw:V P T c (zjd T fn.results.toList fun v S1=>∃ k,J v (S1.take k)) (zag args) S):Ev P f args S J:=by
 refine ⟨h.ent,fun F G w cargs hS hi hl hv=>(h.callsV hT hm hn hw hS hi hl hv).mono ?_⟩
 rintro en w' ⟨v',cv,F',G',k1,⟨k,k2⟩,k3,k4,k5⟩
 obtain ⟨i1,i2⟩:=zep k3 k
 exact ⟨v',cv,F',G'.take k,k1,(zjz G' k).symm ▸ k2,i1,k4.trans i2,k5.next k3 i2⟩
theorem PC.ofV {f:FuncId} {fn:Func} (h:Fn P f fn c) (hT:zbd P T) (hm:P.follows .mixedOrders=true) {args:List PV} {r:PV} {fr:Bool} (hn:args.length≤fn.ntmps)
  (hw:V P T c (zjd T fn.results.toList fun v S=>reify S (!fr) 10 v=some r) (zag args) ⟨[],0⟩):PC P f args r fr:=by
 refine ⟨h.ent,fun F w cargs hF hl hv=>?_⟩
 have hi:Inv F ⟨[],0⟩ w:=⟨hF,by simp,by simp,by simp,by simp,by simp,by simp⟩
 refine (h.callsV hT hm hn hw rfl hi hl fun i p c q1 q2 => .imm _ _ (hv i p c q1 q2)).mono ?_
 rintro en w' ⟨v',cv,F',G',rfl,k2,k3,k4,k5⟩
 refine ⟨cv,rfl,⟨⟨k4.os,k4.tape,k4.output,k4.size,fun b hb=>k4.keep b hb (by simp)⟩,k4.drawn⟩,(zdn k3 k5 k2).mono ?_ (fun _ _=>rfl)⟩
 rintro b (⟨h1,h2⟩ | ⟨o,x,hx,rfl⟩)
 ·rcases k4.fnew b h2 with h3 | h3 | ⟨o,x,hx,_⟩
  ·exact .inr ⟨by simpa using h1,h3⟩
  ·exact .inl ⟨h3,k3.fr b h2⟩
  simp at hx
 rcases k4.gnew o x hx with h3 | ⟨o',y,hy,_⟩
 ·exact .inl ⟨h3,k3.blk_lt hx⟩
 simp at hy
end
end
section
section
variable {P:Program} {T:Tab} {F0:Nat→Prop} {G0:GSt} {w0:World} {N:Nat}
theorem z6v {e:Env} {S:Store} {o:Op} (hc:∀ c,o ≠ .call c) {K1 K2:PV→Store→Prop} (h1:pOp P T e S o K1) (h2:pOp P T e S o K2):pOp P T e S o fun v S'=>K1 v S'∧K2 v S':=by
 cases o with
 | call c=>exact absurd rfl (hc c)
 | alloc t=>exact ⟨h1.1,h1.2,h2.2⟩
 | box t x=>exact ⟨h1.1,h1.2.1,h1.2.2.1,h1.2.2.2,h2.2.2.2⟩
 | buildSlice t n ps =>
  simp only[pOp]at h1 h2 ⊢
  split at h1
  ·rename_i et hk
   rw [hk]at h2
   simp only at h2 ⊢
   refine ⟨h1.1,h1.2.1,?_⟩
   have h1:=h1.2.2
   have h2:=h2.2.2
   split at h1
   ·rename_i cells hf
    rw [hf]at h2
    simp only at h2 ⊢
    exact ⟨h1.1,h1.2,h2.2⟩
   exact h1.elim
  exact h1.elim
 | makeSlice t l c =>
  simp only[pOp]at h1 h2 ⊢
  split at h1
  ·rename_i et q l' q' c' hk e1 e2
   rw [hk,e1,e2]at h2
   simp only at h2 ⊢
   exact ⟨h1.1,h1.2.1,h1.2.2.1,h1.2.2.2.1,h1.2.2.2.2,h2.2.2.2.2⟩
  exact h1.elim
 | makeMap t r=>exact ⟨h1.1,h1.2,h2.2⟩
 | store t a x =>
  simp only[pOp]at h1 h2 ⊢
  split at h1
  ·rename_i o ver off ha
   rw [ha]at h2
   simp only at h2 ⊢
   split at h1
   ·rename_i v et sz cells ho
    rw [ho]at h2
    simp only at h2 ⊢
    exact ⟨h1.1,h1.2.1,h1.2.2.1,h1.2.2.2.1,h1.2.2.2.2.1,h1.2.2.2.2.2,h2.2.2.2.2.2⟩
   exact h1.elim
  exact h1.elim
 | mapUpdate t m k x =>
  simp only[pOp]at h1 h2 ⊢
  split at h1
  ·rename_i kt vt o ver hk hm
   rw [hk,hm]at h2
   simp only at h2 ⊢
   split at h1
   ·rename_i v es ho
    rw [ho]at h2
    simp only at h2 ⊢
    refine ⟨h1.1,h1.2.1,?_⟩
    have h1:=h1.2.2
    have h2:=h2.2.2
    split at h1
    ·rename_i hf; rw [hf]at h2; exact ⟨h1,h2⟩
    ·rename_i hf; rw [hf]at h2; exact ⟨h1,h2⟩
    exact h1.elim
   exact h1.elim
  exact h1.elim
 | insert t m k x =>
  simp only[pOp]at h1 h2 ⊢
  split at h1
  ·rename_i kt vt o ver hk hm
   rw [hk,hm]at h2
   simp only at h2 ⊢
   split at h1
   ·rename_i v es ho
    rw [ho]at h2
    simp only at h2 ⊢
    refine ⟨h1.1,h1.2.1,?_⟩
    have h1:=h1.2.2
    have h2:=h2.2.2
    split at h1
    ·rename_i hf; rw [hf]at h2; exact ⟨h1,h2⟩
    ·rename_i hf; rw [hf]at h2; exact ⟨h1,h2⟩
    exact h1.elim
   exact h1.elim
  exact h1.elim
 | _ =>
  simp only[pOp]at h1 h2 ⊢
  rw [zl6]at h1 h2 ⊢
  obtain ⟨v,e1,k1⟩:=h1
  obtain ⟨v',e2,k2⟩:=h2
  rw [e1]at e2
  cases e2
  exact ⟨v,e1,k1,k2⟩
theorem z3v {ops:Array Oper} {o:Oper} {e:Env} {y1 n1 y2 n2:Prop} (h1:zeo ops o e y1 n1) (h2:zeo ops o e y2 n2):zeo ops o e (y1∧y2) (n1∧n2):=by
 unfold zeo at *
 split at h1
 ·rename_i h; rw [h]at h2; exact ⟨h1,h2⟩
 ·rename_i h; rw [h]at h2; exact ⟨h1,h2⟩
 exact h1.elim
theorem z78 {R:Option Nat} {nn:Nat} (hT:zbd P T) {ops:Array Oper} {effs pend keep:List Nat} {Q:Env→Store→Prop} {i:Nat} {r1 r2:List Nat} {e:Env} {F:Nat→Prop} {G:GSt} {a:Act} {w:World}
  (hnc:∀ o:Oper,ops[i]?=some o→∀ c,o.op ≠ .call c)
  (h1:zde P T ops effs pend keep Q (i::r1) e G.er) (h2:zde P T ops effs pend keep Q (i::r2) e G.er) (hi:Inv F G w) (he:zei w.heap F G e a) (hn:Next F0 G0 w0 F G w) (hs:a.tmps.size=N) (hd:Marks w0 a.defers w)
  (hdst:∀ o∈ops.toList,∀ d,o.dst=some d→d<N) {Qx:Exit→Act→World→Prop} {K:Act→World→Prop}
  (hK:∀ e' F' G' a' w',zde P T ops effs pend keep Q r1 e' G'.er→zde P T ops effs pend keep Q r2 e' G'.er→Inv F' G' w'→zei w'.heap F' G' e' a'→Next F0 G0 w0 F' G' w'→a'.tmps.size=N→Marks w0 a'.defers w'→K a' w') :
  wpOpIn (fnc R) nn P ops Qx i K a w:=by
 simp only[zde]at h1 h2
 unfold wpOpIn
 cases ho:ops[i]? with
 | none=>rw [ho]at h1; exact h1.elim
 | some o =>
  rw [ho]at h1 h2
  have hnc:=hnc o ho
  have hd1:∀ t,o.dst=some t→t<a.tmps.size:=fun t ht=>by
   rw [hs]; exact hdst o (List.mem_of_getElem? (i:=i) (by simpa using ho)) t ht
  simp only at h1 h2 ⊢
  rcases zli he (z3v h1 h2) with ⟨hw,h1,h2⟩ | ⟨hw,h1,h2⟩
  ·rw [if_pos hw]
   split at h1
   ·rename_i hc
    rw [if_pos hc]at h2
    refine zkd hT hi he (z6v hnc h1 h2) ?_
    intro v cv F' G' w' hk i1 i2 i3
    exact hK _ _ _ _ _ hk.1.2 hk.2.2 i1 ((he.next hi i2).put _ hd1 i3) (hn.trans i2) (by rw [ze8]; exact hs) (by rw [zc5]; exact hd.next hi i2)
   ·rename_i hc
    rw [if_neg hc]at h2
    rw [zen]at h1 h2
    obtain ⟨v,f1,_,f3⟩:=h1
    obtain ⟨v',g1,_,g3⟩:=h2
    have hv:v=v':=by
     have hop:=z6v hnc (zvh f1) (zvh g1)
     have key:∀ {op:Op},(∀ c,op ≠ .call c)→pFl P T G.er e op v→pFl P T G.er e op v'→v=v':=by
      intro op hc a1 a2
      cases op with
      | call c=>exact absurd rfl (hc c)
      | _=>exact Option.some.inj (a1.symm.trans a2)
     exact key hnc f1 g1
    subst hv
    refine zkd hT hi he (zvh f1) ?_
    rintro v' cv F' G' w' ⟨rfl,hS⟩ i1 i2 i3
    exact hK _ _ _ _ _ (by rw [hS]; exact f3) (by rw [hS]; exact g3) i1 ((he.next hi i2).put _ hd1 i3) (hn.trans i2) (by rw [ze8]; exact hs) (by rw [zc5]; exact hd.next hi i2)
  rw [if_neg (by simp [hw])]
  exact ⟨fun _ _=>trivial,hK _ _ _ _ _ h1 h2 hi (zr1 hi he _ hd1) hn (by rw [ze8]; exact hs) (by rw [zc5]; exact hd)⟩
theorem z5a {R:Option Nat} {nn:Nat} (hT:zbd P T) {ops:Array Oper} {effs pend keep:List Nat} {Q:Env→Store→Prop} (hdst:∀ o∈ops.toList,∀ d,o.dst=some d→d<N)
  (hdep:∀ (i:Nat) o,ops[i]?=some o→∀ e∈o.after.toList,Region.binds .any e=true→e.on<ops.size) {x0 y0:Nat} (hxy:x0≠y0) (hno1:((prs ops).getD x0 0).testBit y0=false) (hno2:((prs ops).getD y0 0).testBit x0=false)
  (hnc:∀ (i:Nat) (o:Oper),ops[i]?=some o→∀ c,o.op ≠ .call c) :
  ∀ (fuel:Nat) (listed:Array Bool) (l l':List Nat) {e:Env} {F:Nat→Prop} {G:GSt} {a:Act} {w:World},l.length=fuel→l'.length=fuel→x0∈l→y0∈l →
   l.Pairwise (fun x i=>zis ops (prs ops) effs pend x i=true∨(x=x0∧i=y0))→l'.Pairwise (fun x i=>zis ops (prs ops) effs pend x i=true∨(x=y0∧i=x0))→l.Nodup→l'.Nodup→(∀ x∈l,((prs ops).getD x 0).testBit x=false) →
   listed.size=ops.size→(∀ i,i∈l↔i<ops.size∧listed.getD i true=false)→(∀ i,i∈l'↔i<ops.size∧listed.getD i true=false) →
   (∀ i x,listed.getD i false=true→((prs ops).getD i 0).testBit x=true→x<ops.size→listed.getD x true=true) →
   zde P T ops effs pend keep Q l e G.er→zde P T ops effs pend keep Q l' e G.er→Inv F G w→zei w.heap F G e a→Next F0 G0 w0 F G w→a.tmps.size=N→Marks w0 a.defers w →
   wpAnyIn (fnc R) nn P .any ops (Sto F0 G0 w0 N (Nrm Q)) fuel listed a w:=by
 intro fuel
 induction fuel with
 | zero =>
  intro listed l l' e F G a w hl hl' hx0 hy0 hp hp' hnd hnd' hself hsz hmem hmem' hcl h h' hi he hn hs hd
  have hl0:l=[]:=List.eq_nil_of_length_eq_zero hl
  subst hl0
  simp at hx0
 | succ fuel ih =>
  intro listed l l' e F G a w hl hl' hx0 hy0 hp hp' hnd hnd' hself hsz hmem hmem' hcl h h' hi he hn hs hd
  have hmm:∀ i,i∈l↔i∈l':=fun i=>(hmem i).trans (hmem' i).symm
  have bound:∀ i x,((prs ops).getD i 0).testBit x=true→x<ops.size:=by
   have key:∀ n i x,i<n→((prs ops).getD i 0).testBit x=true→x<ops.size:=by
    intro n
    induction n with
    | zero=>intro i x h; omega
    | succ n ihn =>
     intro i x hin hx
     obtain ⟨o,ho,ed,h1,h2,h3⟩:=zpp hx
     rcases h3 with rfl | ⟨h3,h4⟩
     ·exact hdep i o ho ed h1 h2
     exact ihn ed.on x (by omega) h4
   exact fun i x=>key (i+1) i x (Nat.lt_succ_self _)
  have facts:∀ i,i∈Region.ready .any ops listed→i∈l∧∃ q,ops[i]?=some q∧∀ e∈q.after.toList,Region.binds .any e=true→listed.getD e.on false=true:=by
   intro i hr
   unfold Region.ready at hr
   rw [List.mem_filter]at hr
   obtain ⟨h1,h2⟩:=hr
   have hlt:i<ops.size:=by simpa using h1
   rw [Array.getElem?_eq_getElem hlt]at h2
   simp only[qO,Option.getD_some,qB,Bool.not_eq_true']at h2
   refine ⟨(hmem i).2 ⟨hlt,h2.1⟩,ops[i],Array.getElem?_eq_getElem hlt,fun e he hb=>?_⟩
   have:=h2.2
   rw [Array.all_eq_true_iff_forall_mem]at this
   have:=this e (by simpa using he)
   simpa [hb] using this
  have preds:∀ i,i∈Region.ready .any ops listed→∀ x,((prs ops).getD i 0).testBit x=true→listed.getD x true=true:=by
   intro i hr x hx
   obtain ⟨_,q,hq,hdeps⟩:=facts i hr
   have hxl:=bound i x hx
   obtain ⟨o,ho,ed,h1,h2,h3⟩:=zpp hx
   rw [hq]at ho
   cases ho
   have hl1:=hdeps ed h1 h2
   rcases h3 with rfl | ⟨_,h3⟩
   ·have hlt:ed.on<listed.size:=by rw [hsz]; exact hxl
    rw [Array.getD_eq_getD_getElem?,Array.getElem?_eq_getElem hlt]at hl1 ⊢
    exact hl1
   exact hcl _ _ hl1 h3 hxl
  refine ⟨fun hr0=>?_,fun i hr=>?_⟩
  ·exfalso
   cases l with
   | nil=>simp at hl
   | cons x l =>
    have hx:=(hmem x).1 (by simp)
    have hready:x∈Region.ready .any ops listed:=by
     unfold Region.ready
     rw [List.mem_filter]
     refine ⟨by simpa using hx.1,?_⟩
     rw [Array.getElem?_eq_getElem hx.1]
     simp only[qO,Option.getD_some,qB,Bool.not_eq_true']
     refine ⟨hx.2,?_⟩
     rw [Array.all_eq_true_iff_forall_mem]
     intro ed hed
     cases hb:Region.binds .any ed with
     | false=>simp
     | true =>
      have hon:=hdep x _ (Array.getElem?_eq_getElem hx.1) ed (by simpa using hed) hb
      have hbit:=zt8 (Array.getElem?_eq_getElem hx.1) (by simpa using hed) hb
      cases hq:listed.getD ed.on true with
      | true =>
       have hlt:ed.on<listed.size:=by rw [hsz]; exact hon
       rw [Array.getD_eq_getD_getElem?,Array.getElem?_eq_getElem hlt]at hq ⊢
       simpa using hq
      | false =>
       exfalso
       have hm:=(hmem ed.on).2 ⟨hon,hq⟩
       rcases List.mem_cons.1 hm with he1 | hm
       ·have:=hself x (by simp)
        rw [he1]at hbit
        rw [hbit]at this
        cases this
       rcases List.rel_of_pairwise_cons hp hm with this | ⟨e1,e2⟩
       ·unfold zis at this
        rw [hbit]at this
        simp at this
       rw [e1,e2,hno1]at hbit; cases hbit
    rw [hr0]at hready
    simp at hready
  obtain ⟨hil,q,hq,_⟩:=facts i hr
  have hil':=(hmm i).1 hil
  obtain ⟨l1,l2,rfl⟩:=List.append_of_mem hil
  obtain ⟨l3,l4,rfl⟩:=List.append_of_mem hil'
  have good:∀ x,x∈l1++i::l2→zis ops (prs ops) effs pend x i=true→∃ p,ops[x]?=some p∧effs.contains x=false∧Oper.apart ops p q=true∧(effs.contains i=true→(pend.contains x=true∧pend.contains i=false)∨zvs p.op=true):=by
   intro x hx hpair
   have hxm:=(hmem x).1 hx
   have hnb:((prs ops).getD i 0).testBit x=false:=by
    cases hb:((prs ops).getD i 0).testBit x with
    | false=>rfl
    | true=>have:=preds i hr x hb; rw [hxm.2]at this; cases this
   unfold zis at hpair
   rw [hnb,hq,Array.getElem?_eq_getElem hxm.1]at hpair
   simp only[Bool.false_or,qB,Bool.not_eq_true',Bool.or_eq_true]at hpair
   refine ⟨ops[x],Array.getElem?_eq_getElem hxm.1,hpair.2.1.1,hpair.2.1.2,fun hc=>?_⟩
   rcases hpair.2.2 with (h1 | h1) | h1
   ·rw [hc]at h1; cases h1
   ·exact .inl h1
   exact .inr h1
  have hlt:i<ops.size:=((hmem i).1 hil).1
  have hgetD:∀ j d,(listed.setIfInBounds i true).getD j d=if j=i then true else listed.getD j d:=by
   intro j d
   rw [Array.getD_eq_getD_getElem?,Array.getD_eq_getD_getElem?]
   by_cases hj:j=i
   ·subst hj; simp [hsz,hlt]
   rw [Array.getElem?_setIfInBounds_ne (Ne.symm hj),if_neg hj]
  have nmem:∀ {m1 m2:List Nat},(m1++i::m2).Nodup→i ∉ m1++m2:=by
   intro m1 m2 hnd hm
   have:=List.nodup_append.1 hnd
   rcases List.mem_append.1 hm with h1 | h1
   ·exact this.2.2 i h1 i (by simp) rfl
   exact (List.nodup_cons.1 this.2.1).1 h1
  have nlist:∀ {m1 m2:List Nat},(m1++i::m2).Nodup→(∀ j,j∈m1++i::m2↔j<ops.size∧listed.getD j true=false)→∀ j,j∈m1++m2↔j<ops.size∧(listed.setIfInBounds i true).getD j true=false:=by
   intro m1 m2 hnd hm j
   rw [hgetD]
   by_cases hj:j=i
   ·subst hj
    rw [if_pos rfl]
    exact ⟨fun h=>(nmem hnd h).elim,fun h=>(by cases h.2)⟩
   rw [if_neg hj,← hm j]
   simp [hj]
  have ncl:∀ (j x:Nat),(listed.setIfInBounds i true).getD j false=true→((prs ops).getD j 0).testBit x=true→x<ops.size→(listed.setIfInBounds i true).getD x true=true:=by
   intro j x h1 h2 h3
   rw [hgetD]at h1 ⊢
   by_cases hx:x=i
   ·rw [if_pos hx]
   rw [if_neg hx]
   by_cases hj:j=i
   ·subst hj; exact preds j hr x h2
   rw [if_neg hj]at h1; exact hcl j x h1 h2 h3
  by_cases ix:i=x0
  ·subst ix
   have hfront:=ze2 hq l1 (fun x hx=>good x (by simp [hx]) (by
    rcases (List.pairwise_append.1 hp).2.2 x hx i (by simp) with h1 | ⟨e1,e2⟩
    ·exact h1
    exact absurd e2 hxy)) h
   refine zq8 hT hfront hi he hn hs hd hdst ?_
   intro e' F' G' a' w' k1 k2 k3 k4 k5 k6
   refine zqd hT hdst hdep _ _ (l1++l2) (by simp at hl ⊢; omega) ?_ (hnd.sublist (by simp)) (fun x hx=>hself x (by rcases List.mem_append.1 hx with h9 | h9 <;> simp [h9])) (by simp [hsz]) (nlist hnd hmem) ncl k1 k2 k3 k4 k5 k6
   refine (hp.sublist (by simp)).imp_of_mem (S:=fun x i=>zis ops (prs ops) effs pend x i=true) fun {x y} hx hy hh=>?_
   rcases hh with h1 | ⟨e1,e2⟩
   ·exact h1
   exact absurd (e1 ▸ hx) (nmem hnd)
  by_cases iy:i=y0
  ·subst iy
   have hfront:=ze2 hq l3 (fun x hx=>good x ((hmm x).2 (by simp [hx])) (by
    rcases (List.pairwise_append.1 hp').2.2 x hx i (by simp) with h1 | ⟨e1,e2⟩
    ·exact h1
    exact absurd e2 ix)) h'
   refine zq8 hT hfront hi he hn hs hd hdst ?_
   intro e' F' G' a' w' k1 k2 k3 k4 k5 k6
   refine zqd hT hdst hdep _ _ (l3++l4) (by simp at hl' ⊢; omega) ?_ (hnd'.sublist (by simp)) (fun x hx=>hself x ((hmm x).2 (by rcases List.mem_append.1 hx with h9 | h9 <;> simp [h9]))) (by simp [hsz]) (nlist hnd' hmem') ncl k1 k2 k3 k4 k5 k6
   refine (hp'.sublist (by simp)).imp_of_mem (S:=fun x i=>zis ops (prs ops) effs pend x i=true) fun {x y} hx hy hh=>?_
   rcases hh with h1 | ⟨e1,e2⟩
   ·exact h1
   exact absurd (e1 ▸ hx) (nmem hnd')
  have hf1:=ze2 hq l1 (fun x hx=>good x (by simp [hx]) (by
   rcases (List.pairwise_append.1 hp).2.2 x hx i (by simp) with h1 | ⟨e1,e2⟩
   ·exact h1
   exact absurd e2 iy)) h
  have hf2:=ze2 hq l3 (fun x hx=>good x ((hmm x).2 (by simp [hx])) (by
   rcases (List.pairwise_append.1 hp').2.2 x hx i (by simp) with h1 | ⟨e1,e2⟩
   ·exact h1
   exact absurd e2 ix)) h'
  refine z78 hT (hnc i) hf1 hf2 hi he hn hs hd hdst ?_
  intro e' F' G' a' w' k1 k1' k2 k3 k4 k5 k6
  have hx1:x0∈l1++l2:=by have:=hx0; simp only[List.mem_append,List.mem_cons]at this ⊢; rcases this with h9 | h9 | h9 <;> first | exact .inl h9 | exact .inr h9 | exact absurd h9.symm ix
  have hy1:y0∈l1++l2:=by have:=hy0; simp only[List.mem_append,List.mem_cons]at this ⊢; rcases this with h9 | h9 | h9 <;> first | exact .inl h9 | exact .inr h9 | exact absurd h9.symm iy
  exact ih _ (l1++l2) (l3++l4) (by simp at hl ⊢; omega) (by simp at hl' ⊢; omega) hx1 hy1 (hp.sublist (by simp)) (hp'.sublist (by simp)) (hnd.sublist (by simp)) (hnd'.sublist (by simp)) (fun x hx=>hself x (by rcases List.mem_append.1 hx with h9 | h9 <;> simp [h9])) (by simp [hsz])
   (nlist hnd hmem) (nlist hnd' hmem') ncl k1 k1' k2 k3 k4 k5 k6
def z4z (ops:Array Oper) (l l' effs pend:List Nat) (a b:Nat):Bool :=
 let B:=prs ops
 znb (fun x i=>zis ops B effs pend x i || (x == a && i == b)) l && znb (fun x i=>zis ops B effs pend x i || (x == b && i == a)) l' && l.length == ops.size && l'.length == ops.size && l.all (fun x=>decide (x<ops.size) && !(B.getD x 0).testBit x) && l'.all (fun x=>decide (x<ops.size)) &&
 ((List.range ops.size).all l.contains) && ((List.range ops.size).all l'.contains) && (ops.toList.all fun o=>o.after.toList.all fun e => !Region.binds .any e || decide (e.on<ops.size)) &&
 !(a == b) && l.contains a && l.contains b && !(B.getD a 0).testBit b && !(B.getD b 0).testBit a && ops.toList.all fun o=>match o.op with | .call _=>false | _=>true
theorem W.region_two {Q:Exit→Env→Store→Prop} {e:Env} {S:Store} {id:Nat} {ops:Array Oper} (l l' effs pend keep:List Nat) (a b:Nat) (hc:z4z ops l l' effs pend a b=true) (h:zde P T ops effs pend keep (Q .normal) l e S) (h':zde P T ops effs pend keep (Q .normal) l' e S) :
  W P T (.region id ops true) Q e S:=by
 refine ⟨?_⟩
 intro hT hm F0 G0 w0 N F G act w h3 h4 h5 h6 h7 h8 h9 R nn
 subst h3
 unfold z4z at hc
 simp only[qB,beq_iff_eq,List.all_eq_true,decide_eq_true_eq,Bool.not_eq_true',List.contains_eq_mem,List.mem_range,Bool.or_eq_true,beq_eq_false_iff_ne]at hc
 obtain ⟨⟨⟨⟨⟨⟨⟨⟨⟨⟨⟨⟨⟨⟨c1,c1'⟩,c2⟩,c2'⟩,c3⟩,c3'⟩,c4⟩,c4'⟩,c5⟩,c6⟩,c7⟩,c8⟩,c9⟩,c10⟩,c11⟩:=hc
 obtain ⟨p1,p2⟩:=zho c1
 obtain ⟨p1',p2'⟩:=zho c1'
 have hin:∀ i,i<ops.size↔i<ops.size∧(Array.replicate ops.size false).getD i true=false:=by
  intro i
  constructor
  ·intro hi; refine ⟨hi,?_⟩; rw [Array.getD_eq_getD_getElem?]; simp [hi]
  exact fun h=>h.1
 refine wpIn_mono (wpIn_region_any hm (z5a (Q:=Q .normal) hT (zuz h9) ?_ c6 c9 c10 ?_ ops.size (Array.replicate ops.size false) l l' c2 c2' (by simpa using c7) (by simpa using c8) (p1.imp fun h=>by simpa using h) (p1'.imp fun h=>by simpa using h) p2 p2' (fun x hx=>(c3 x hx).2) (by simp) ?_ ?_ ?_ h h' (h4.drew) h5 (h6.drew) h7 h8)) z1w
 ·intro i o ho ed hed hb
  have hmem:o∈ops.toList:=by
   have:=Array.mem_of_getElem? ho
   simpa using this
  have:=c5 o hmem ed hed
  rw [hb]at this
  simpa using this
 ·intro i o ho c hcc
  have hmem:o∈ops.toList:=by
   have:=Array.mem_of_getElem? ho
   simpa using this
  have:=c11 o hmem
  rw [hcc]at this
  simp at this
 ·exact fun i=>⟨fun hi=>(hin i).1 (c3 i hi).1,fun hi=>c4 i hi.1⟩
 ·exact fun i=>⟨fun hi=>(hin i).1 (c3' i hi),fun hi=>c4' i hi.1⟩
 intro i x hx
 rw [Array.getD_eq_getD_getElem?]at hx
 simp only[Array.getElem?_replicate]at hx
 split at hx <;> cases hx
theorem zqf {all:List Oper} {effs pend:List Nat} {K:Env→Store→Prop} (heff:∀ (i:Nat) (o:Oper),all[i]?=some o→effs.contains i=false→ze1 o.op=true) {x:Nat} {cs:List PV} {off:Nat}
  (hx:∀ (i:Nat) (o:Oper),all[i]?=some o→o.dst≠some x) (hpe:∀ (i:Nat) (o:Oper),all[i]?=some o→pend.contains i=true→∃ t,o.op = .load t (.tmp x)):∀ (r:List Nat) (l:List Oper) {e:Env} {S:Store},e x = .ip cs off→r.map (all[·]?)=l.map some →
  za7 false P T (dsts all) l e S K→zde P T all.toArray effs pend [] K r e S
 | [],l,e,S,_,hl,h=>by
  cases l with
  | nil=>exact h
  | cons o l=>simp at hl
 | i::r,l,e,S,hex,hl,h=>by
  cases l with
  | nil=>simp at hl
  | cons o l =>
   simp only[List.map_cons,List.cons.injEq]at hl
   obtain ⟨ho,hl⟩:=hl
   have hput:∀ v,(e.put o.dst v) x = .ip cs off:=fun v=>by
    have:=hx i o ho
    cases hd:o.dst with
    | none=>exact hex
    | some d=>rw [zvk,if_neg (fun e1=>this (by rw [hd,e1]))]; exact hex
   unfold za7 at h
   simp only[zde,List.getElem?_toArray,ho]
   rw [zm1]at h
   unfold zeo
   split at h
   ·rename_i hg
    rw [hg]
    simp only
    split
    ·exact ze7 (fun v S' hv=>⟨.inr (by intro o ho; cases ho),zqf heff hx hpe r l (hput v) hl hv⟩) (zng h)
    rename_i hc
    have:=zo5 (heff i o ho (by simpa using hc)) h
    rw [zen]at this ⊢
    obtain ⟨v,h1,h2⟩:=this
    refine ⟨v,h1,?_,zqf heff hx hpe r l (hput v) hl h2⟩
    split
    ·rename_i hp
     obtain ⟨t,ht⟩:=hpe i o ho hp
     intro S' _
     rw [ht]at h1 ⊢
     simp only[pFl,zds,z5f,hex,zvi]at h1 ⊢
     exact h1
    trivial
   ·rename_i hg; rw [hg]; exact zqf heff hx hpe r l (hput _) hl h
   exact h.elim
def yen (l:List Oper) (effs pend:List Nat) (x:Nat):Bool :=
 l.all (fun o=>o.dst != some x) && (l.zipIdx.all fun q => !pend.contains q.2 || (match q.1.op with | .load _ (.tmp y)=>y == x | _=>false))
theorem W.draw_two {Q:Exit→Env→Store→Prop} {e:Env} {S:Store} {id:Nat} {l r1 r2:List Oper} (l1 l2 pend:List Nat) (a b x:Nat) {cs:List PV} {off:Nat} (hex:e x = .ip cs off) (hc:z4z l.toArray l1 l2 (zcg l 0) pend a b=true) (ho:yen l (zcg l 0) pend x=true)
  (hr:l1.map (l[·]?)=r1.map some) (hr2:l2.map (l[·]?)=r2.map some)
  (h1:∀ K:Env→Store→Prop,(∀ e S,Q .normal e S→K e S)→za7 false P T (dsts l) r1 e S K) (h2:∀ K:Env→Store→Prop,(∀ e S,Q .normal e S→K e S)→za7 false P T (dsts l) r2 e S K):W P T (.region id l.toArray true) Q e S:=by
 unfold yen at ho
 simp only[qB,List.all_eq_true,bne_iff_ne,Bool.or_eq_true,Bool.not_eq_true']at ho
 have heff:∀ (i:Nat) (o:Oper),l[i]?=some o→(zcg l 0).contains i=false→ze1 o.op=true:=by
  intro i o hio hc
  have:=zle l 0 i o hio
  rw [Nat.zero_add]at this
  cases hf:ze1 o.op with
  | true=>rfl
  | false=>have:=this.2 hf; simp at hc; exact absurd this hc
 have hx:∀ (i:Nat) (o:Oper),l[i]?=some o→o.dst≠some x:=fun i o hio=>ho.1 o (List.mem_of_getElem? hio)
 have hpe:∀ (i:Nat) (o:Oper),l[i]?=some o→pend.contains i=true→∃ t,o.op = .load t (.tmp x):=by
  intro i o hio hp
  rcases ho.2 (o,i) (List.mem_of_getElem? (i:=i) (by simp [List.getElem?_zipIdx,hio])) with h | h
  ·rw [hp]at h; cases h
  simp only at h
  split at h
  ·rename_i t y hop; exact ⟨t,by rw [hop,beq_iff_eq.1 h]⟩
  cases h
 exact W.region_two l1 l2 (zcg l 0) pend [] a b hc (zqf heff hx hpe _ _ hex hr (h1 _ fun _ _ h=>h)) (zqf heff hx hpe _ _ hex hr2 (h2 _ fun _ _ h=>h))
end
end
theorem zad {a b:Nat}:((a+b:Nat):Int) - (a:Int)=(b:Int):=by omega
theorem zzz {p:List Txt} (hp:zaz p=true):GW (gP p) p.length (zal p).length:=by
 rw [← zd6]at hp
 simp only[zd9,qB]at hp
 have:=z1x hp.1
 rwa [znk]at this
theorem z84 {p:List Txt} (hp:zaz p=true) {t:Pt} (ht:t.In p.length (zal p).length) (l:Nat) (a b c d:Ob) (tk:Nat) (B C D:Bool × Nat→Ob)
  (hy:∀ q,zcv (zah p) t=some q→∀ (x y:Ob) (tk2:Nat),tk≤tk2→Ey Tryz.prog l [z1d (gP p) (rP p) t q] ⟨[a,b,c,d,x,y],tk2⟩ fun v S=>v = .bool false∧∃ tk3,S=⟨[a,B q,C q,D q,x,y],tk3⟩):Ev Tryz.prog 279 [.yl l,.ip (zaw (gP p) (rP p)::t.rect.cells) 0] ⟨[a,b,c,d],tk⟩ fun v S=>(∃ tk2,zcv (zah p) t=none∧S=⟨[a,b,c,d],tk2⟩)∨∃ q tk2,zcv (zah p) t=some q∧S=⟨[a,B q,C q,D q],tk2⟩:=by
 have hsm:=zay (zb8 hp)
 obtain ⟨t1,t2,t3,t4⟩:=id ht
 have hgw:=zzz hp
 obtain ⟨g1,g2,g3,g4⟩:=hgw.2.2
 simp only[Pt.rect,Rect.cells]
 refine Ev.of ⟨Tryz.func279,by kernel_rfl,rfl,by kernel_rfl⟩ zao mixed (by show 2≤Tryz.f279.ntmps; decide) ?_
 refine W.seq ?_
 refine W.r fun K hK=>?_
 simp(disch:=omega)only[↓RU,RV,RH,↓reduceIte,qE,reduceCtorEq,if_pos,w64,↓RS,RG,qA,qM,qL,ty6,za5,zap,zaa,za6,zaq,zad]
 apply hK;clear hK K
 refine W.block ?_
 refine W.loop [0,1,3] (fun n vs S=>∃ k tk2:Nat,n=t.w - k∧1≤k∧k≤t.w∧(∀ j,1≤j→j<k→thU (zah p) t j=false)∧tk≤tk2∧vs=[.yl l,.ip [zaw (gP p) (rP p),.int .i64 t.r,.int .i64 t.c,.int .i64 t.h,.int .i64 t.w] 0,.int .i64 ((t.c+k:Nat):Int)]∧S=⟨[a,b,c,d],tk2⟩) (t.w - 1) ?_ ?_
 ·refine ⟨4,1,_,rfl,by omega,by omega,fun j _ _=>by omega,qR _,?_,rfl⟩
  simp [Env.put,Env.of,zag]
 rintro n vs S - ⟨k,tk2,rfl,hk1,h_k,hall,htk,rfl,rfl⟩
 refine W.seq ?_
 refine W.r fun K hK=>?_
 simp(disch:=omega)only[↓RU,RV,RH,↓reduceIte,qE,reduceCtorEq,if_pos,w64,↓RS,RG,qA,qM,qL,ty6,za5,zap,zaa,za6,zaq,zad]
 apply hK;clear hK K
 refine W.cond rfl (fun h=>?_) (fun h=>?_)
 ·try simp only[RL]at h
  have hgu:=yf4 hp ht hk1 (show k<t.w by omega)
  have e1:((t.w:Nat):Int) - ((k:Nat):Int)=((t.w - k:Nat):Int):=by omega
  refine W.skip ?_
  refine xn ?_
  refine W.seq ?_
  refine W.block ?_
  refine W.seq (W.draw_two (r1:=[_,_,_,_,_,_]) (r2:=[_,_,_,_,_,_]) [0,1,2,3,4,5] [0,1,3,2,4,5] [0,1] 2 3 1 rfl (by kernel_rfl) (by kernel_rfl) rfl rfl (fun K hK=>?_) (fun K hK=>?_))
  ·simp(disch:=omega)only[↓RU,RV,RH,↓reduceIte,qE,reduceCtorEq,if_pos,↓RS,RG,qA,qM,qL,ty6,za5,zap,zaa,za6,zaq,zad]
   apply hK;clear hK K
   refine xn ?_
   refine W.r fun K hK=>?_
   simp(disch:=omega)only[↓RU,RV,RH,↓reduceIte,qE,reduceCtorEq,if_pos,w64,↓RS,RG,qA,qM,qL,ty6,za5,zap,zaa,za6,zaq,zad]
   apply hK;clear hK K
   refine W.seq_pk 11 [some 34,some 35,some 36,some 37,some 38,some 39] [4] (by decide) (by kernel_rfl) fun K hK=>?_
   simp only[List.take_succ_cons,List.take_zero,List.drop_succ_cons,List.drop_zero]
   refine zas rfl ?_
   simp(disch:=omega)only[↓RU,RV,RH,↓reduceIte,qE,reduceCtorEq,if_pos,w64,↓RS,RG,qA,qM,qL,ty6,za5,zap,zaa,za6,zaq,zad,e1,zaj,zam]
   refine zan (.ip [zaw (gP p) (rP p),.int .i64 t.r,.int .i64 t.c,.int .i64 t.h,.int .i64 t.w] 1) rfl rfl rfl (fun S' hS=>?_) ?_
   ·skip
    have k4:=(hS 4 (by decide)).trans (show _=some _ from rfl)
    simp(disch:=omega)only[↓RU,RV,RH,↓reduceIte,qE,reduceCtorEq,if_pos,w64,↓RS,RG,qA,qM,qL,ty6,za5,zap,zaa,za6,zaq,zad,e1,zbe,zb7,zdj,zdk,k4]
   refine zan (.ip [zaw (gP p) (rP p),.int .i64 t.r,.int .i64 t.c,.int .i64 t.h,.int .i64 t.w] 4) rfl rfl rfl (fun S' hS=>?_) ?_
   ·skip
    have k4:=(hS 4 (by decide)).trans (show _=some _ from rfl)
    simp(disch:=omega)only[↓RU,RV,RH,↓reduceIte,qE,reduceCtorEq,if_pos,w64,↓RS,RG,qA,qM,qL,ty6,za5,zap,zaa,za6,zaq,zad,e1,zbe,zb7,zdj,zdk,k4]
   refine zan (.int .i64 t.w) rfl rfl rfl (fun S' hS=>?_) ?_
   ·skip
    have k4:=(hS 4 (by decide)).trans (show _=some _ from rfl)
    simp(disch:=omega)only[↓RU,RV,RH,↓reduceIte,qE,reduceCtorEq,if_pos,w64,↓RS,RG,qA,qM,qL,ty6,za5,zap,zaa,za6,zaq,zad,e1,zbe,zb7,zdj,zdk,k4]
   refine zan (.ref 4 tk2 1) rfl rfl rfl (fun S' hS=>?_) ?_
   ·skip
    have k4:=(hS 4 (by decide)).trans (show _=some _ from rfl)
    simp(disch:=omega)only[↓RU,RV,RH,↓reduceIte,qE,reduceCtorEq,if_pos,w64,↓RS,RG,qA,qM,qL,ty6,za5,zap,zaa,za6,zaq,zad,e1,zbe,zb7,zdj,zdk,k4]
   refine zan (.ref 4 tk2 4) rfl rfl rfl (fun S' hS=>?_) ?_
   ·skip
    have k4:=(hS 4 (by decide)).trans (show _=some _ from rfl)
    simp(disch:=omega)only[↓RU,RV,RH,↓reduceIte,qE,reduceCtorEq,if_pos,w64,↓RS,RG,qA,qM,qL,ty6,za5,zap,zaa,za6,zaq,zad,e1,zbe,zb7,zdj,zdk,k4]
   refine zan (.int .i64 k) rfl rfl rfl (fun S' hS=>?_) ?_
   ·skip
    have k4:=(hS 4 (by decide)).trans (show _=some _ from rfl)
    simp(disch:=omega)only[↓RU,RV,RH,↓reduceIte,qE,reduceCtorEq,if_pos,w64,↓RS,RG,qA,qM,qL,ty6,za5,zap,zaa,za6,zaq,zad,e1,zbe,zb7,zdj,zdk,k4]
   refine zas rfl ?_
   simp(disch:=omega)only[↓RU,RV,RH,↓reduceIte,qE,reduceCtorEq,if_pos,w64,↓RS,RG,qA,qM,qL,ty6,za5,zap,zaa,za6,zaq,zad,e1,zaj,zam]
   refine zas rfl ?_
   simp(disch:=omega)only[↓RU,RV,RH,↓reduceIte,qE,reduceCtorEq,if_pos,w64,↓RS,RG,qA,qM,qL,ty6,za5,zap,zaa,za6,zaq,zad,e1,zaj,zam]
   refine zas rfl ?_
   simp(disch:=omega)only[↓RU,RV,RH,↓reduceIte,qE,reduceCtorEq,if_pos,w64,↓RS,RG,qA,qM,qL,ty6,za5,zap,zaa,za6,zaq,zad,e1,zaj,zam]
   refine zas rfl ?_
   simp(disch:=omega)only[↓RU,RV,RH,↓reduceIte,qE,reduceCtorEq,if_pos,w64,↓RS,RG,qA,qM,qL,ty6,za5,zap,zaa,za6,zaq,zad,e1,zaj,zam]
   refine zfb ?_
   simp(disch:=omega)only[↓RU,RV,RH,↓reduceIte,qE,reduceCtorEq,if_pos,w64,↓RS,RG,qA,qM,qL,ty6,za5,zap,zaa,za6,zaq,zad,e1]
   apply hK;clear hK K
   refine W.r fun K hK=>?_
   cases hth:thU (zah p) t k
   ·skip
    simp(disch:=omega)only[↓RU,RV,RH,↓reduceIte,qE,reduceCtorEq,if_pos,qN,↓RS,RG,qA,qM,qL,ty6,zau,za5,zer,zap,zaa,za6,zes,zaq,zad,hgu,hth]
    refine zac.pc (zec hgw (rP p) ht (level:=false) (line:=t.c+k) (by omega) (by simp; omega)) rfl (.inl rfl) ?_
    simp(disch:=omega)only[↓RU,RV,RH,↓reduceIte,qE,reduceCtorEq,if_pos,qN,↓RS,RG,qA,qM,qL,ty6,zau,za5,zer,zap,zaa,za6,zes,zaq,zad,hgu,hth]
    apply hK;clear hK K
    refine W.cond rfl (fun h1=>?_) (fun h1=>?_)
    ·try simp only[RL]at h1
     exact absurd h1 (by simp)
    try simp only[RL]at h1
    refine W.skip ?_
    refine XbN ?_
    refine xn ?_
    refine W.k fun K hK=>?_
    simp(disch:=omega)only[↓RU,RV,RH,↓reduceIte,qE,reduceCtorEq,if_pos,w64,↓RS,RG,qA,qM,qL,zaa,zad]
    apply hK;clear hK K
    refine xn ?_
    refine ⟨t.w - (k+1),by omega,4,k+1,_,rfl,by omega,by omega,fun j j1 j2=>?_,?_,?_,rfl⟩
    ·rcases Nat.lt_succ_iff_lt_or_eq.1 j2 with h | rfl
     ·exact hall j j1 h
     exact hth
    ·exact Nat.le_trans htk (Nat.le_add_right _ 2)
    simp [Env.put,Env.of]; omega
   skip
   have hq:zcv (zah p) t=some (false,k):=by unfold zcv; rw [zel.2 ⟨hk1,by omega,hth,hall⟩]
   simp(disch:=omega)only[↓RU,RV,RH,↓reduceIte,qE,reduceCtorEq,if_pos,qN,↓RS,RG,qA,qM,qL,ty6,zau,za5,zer,zap,zaa,za6,zes,zaq,zad,hgu,hth]
   refine zac.pc (zec hgw (rP p) ht (level:=false) (line:=t.c+k) (by omega) (by simp; omega)) rfl (.inl rfl) ?_
   simp(disch:=omega)only[↓RU,RV,RH,↓reduceIte,qE,reduceCtorEq,if_pos,qN,↓RS,RG,qA,qM,qL,ty6,zau,za5,zer,zap,zaa,za6,zes,zaq,zad,hgu,hth]
   refine zy5.ey (hy _ hq _ _ _ (Nat.le_trans htk (Nat.le_add_right _ 2))) ?_
   rintro _ _ ⟨rfl,tk3,rfl⟩
   simp(disch:=omega)only[↓RU,RV,RH,↓reduceIte,qE,reduceCtorEq,if_pos,qN,↓RS,RG,qA,qM,qL,ty6,zau,za5,zer,zap,zaa,za6,zes,zaq,zad,hgu,hth]
   apply hK;clear hK K
   refine W.cond rfl (fun h1=>?_) (fun h1=>?_)
   ·try simp only[RL]at h1
    refine W.ret ?_
    refine XBlock.ret ?_
    refine XThen.ret ?_
    refine XThen.ret ?_
    refine XBlock.ret ?_
    refine XThen.ret ?_
    refine Br rfl ?_
    exact ⟨4,.inr ⟨_,_,hq,rfl⟩⟩
   try simp only[RL]at h1
   exact absurd h1 (by simp)
  simp(disch:=omega)only[↓RU,RV,RH,↓reduceIte,qE,reduceCtorEq,if_pos,↓RS,RG,qA,qM,qL,ty6,za5,zap,zaa,za6,zaq,zad]
  apply hK;clear hK K
  refine xn ?_
  refine W.r fun K hK=>?_
  simp(disch:=omega)only[↓RU,RV,RH,↓reduceIte,qE,reduceCtorEq,if_pos,w64,↓RS,RG,qA,qM,qL,ty6,za5,zap,zaa,za6,zaq,zad]
  apply hK;clear hK K
  refine W.seq_pk 11 [some 34,some 35,some 36,some 37,some 38,some 39] [5] (by decide) (by kernel_rfl) fun K hK=>?_
  simp only[List.take_succ_cons,List.take_zero,List.drop_succ_cons,List.drop_zero]
  refine zas rfl ?_
  simp(disch:=omega)only[↓RU,RV,RH,↓reduceIte,qE,reduceCtorEq,if_pos,w64,↓RS,RG,qA,qM,qL,ty6,za5,zap,zaa,za6,zaq,zad,e1,zaj,zam]
  refine zan (.ip [zaw (gP p) (rP p),.int .i64 t.r,.int .i64 t.c,.int .i64 t.h,.int .i64 t.w] 1) rfl rfl rfl (fun S' hS=>?_) ?_
  ·skip
   have k5:=(hS 5 (by decide)).trans (show _=some _ from rfl)
   simp(disch:=omega)only[↓RU,RV,RH,↓reduceIte,qE,reduceCtorEq,if_pos,w64,↓RS,RG,qA,qM,qL,ty6,za5,zap,zaa,za6,zaq,zad,e1,zbe,zb7,zdj,zdk,k5]
  refine zan (.ip [zaw (gP p) (rP p),.int .i64 t.r,.int .i64 t.c,.int .i64 t.h,.int .i64 t.w] 4) rfl rfl rfl (fun S' hS=>?_) ?_
  ·skip
   have k5:=(hS 5 (by decide)).trans (show _=some _ from rfl)
   simp(disch:=omega)only[↓RU,RV,RH,↓reduceIte,qE,reduceCtorEq,if_pos,w64,↓RS,RG,qA,qM,qL,ty6,za5,zap,zaa,za6,zaq,zad,e1,zbe,zb7,zdj,zdk,k5]
  refine zan (.int .i64 t.w) rfl rfl rfl (fun S' hS=>?_) ?_
  ·skip
   have k5:=(hS 5 (by decide)).trans (show _=some _ from rfl)
   simp(disch:=omega)only[↓RU,RV,RH,↓reduceIte,qE,reduceCtorEq,if_pos,w64,↓RS,RG,qA,qM,qL,ty6,za5,zap,zaa,za6,zaq,zad,e1,zbe,zb7,zdj,zdk,k5]
  refine zan (.ref 5 (tk2+1) 1) rfl rfl rfl (fun S' hS=>?_) ?_
  ·skip
   have k5:=(hS 5 (by decide)).trans (show _=some _ from rfl)
   simp(disch:=omega)only[↓RU,RV,RH,↓reduceIte,qE,reduceCtorEq,if_pos,w64,↓RS,RG,qA,qM,qL,ty6,za5,zap,zaa,za6,zaq,zad,e1,zbe,zb7,zdj,zdk,k5]
  refine zan (.ref 5 (tk2+1) 4) rfl rfl rfl (fun S' hS=>?_) ?_
  ·skip
   have k5:=(hS 5 (by decide)).trans (show _=some _ from rfl)
   simp(disch:=omega)only[↓RU,RV,RH,↓reduceIte,qE,reduceCtorEq,if_pos,w64,↓RS,RG,qA,qM,qL,ty6,za5,zap,zaa,za6,zaq,zad,e1,zbe,zb7,zdj,zdk,k5]
  refine zan (.int .i64 k) rfl rfl rfl (fun S' hS=>?_) ?_
  ·skip
   have k5:=(hS 5 (by decide)).trans (show _=some _ from rfl)
   simp(disch:=omega)only[↓RU,RV,RH,↓reduceIte,qE,reduceCtorEq,if_pos,w64,↓RS,RG,qA,qM,qL,ty6,za5,zap,zaa,za6,zaq,zad,e1,zbe,zb7,zdj,zdk,k5]
  refine zas rfl ?_
  simp(disch:=omega)only[↓RU,RV,RH,↓reduceIte,qE,reduceCtorEq,if_pos,w64,↓RS,RG,qA,qM,qL,ty6,za5,zap,zaa,za6,zaq,zad,e1,zaj,zam]
  refine zas rfl ?_
  simp(disch:=omega)only[↓RU,RV,RH,↓reduceIte,qE,reduceCtorEq,if_pos,w64,↓RS,RG,qA,qM,qL,ty6,za5,zap,zaa,za6,zaq,zad,e1,zaj,zam]
  refine zas rfl ?_
  simp(disch:=omega)only[↓RU,RV,RH,↓reduceIte,qE,reduceCtorEq,if_pos,w64,↓RS,RG,qA,qM,qL,ty6,za5,zap,zaa,za6,zaq,zad,e1,zaj,zam]
  refine zas rfl ?_
  simp(disch:=omega)only[↓RU,RV,RH,↓reduceIte,qE,reduceCtorEq,if_pos,w64,↓RS,RG,qA,qM,qL,ty6,za5,zap,zaa,za6,zaq,zad,e1,zaj,zam]
  refine zfb ?_
  simp(disch:=omega)only[↓RU,RV,RH,↓reduceIte,qE,reduceCtorEq,if_pos,w64,↓RS,RG,qA,qM,qL,ty6,za5,zap,zaa,za6,zaq,zad,e1]
  apply hK;clear hK K
  refine W.r fun K hK=>?_
  cases hth:thU (zah p) t k
  ·skip
   simp(disch:=omega)only[↓RU,RV,RH,↓reduceIte,qE,reduceCtorEq,if_pos,qN,↓RS,RG,qA,qM,qL,ty6,zau,za5,zer,zap,zaa,za6,zes,zaq,zad,hgu,hth]
   refine zac.pc (zec hgw (rP p) ht (level:=false) (line:=t.c+k) (by omega) (by simp; omega)) rfl (.inl rfl) ?_
   simp(disch:=omega)only[↓RU,RV,RH,↓reduceIte,qE,reduceCtorEq,if_pos,qN,↓RS,RG,qA,qM,qL,ty6,zau,za5,zer,zap,zaa,za6,zes,zaq,zad,hgu,hth]
   apply hK;clear hK K
   refine W.cond rfl (fun h1=>?_) (fun h1=>?_)
   ·try simp only[RL]at h1
    exact absurd h1 (by simp)
   try simp only[RL]at h1
   refine W.skip ?_
   refine XbN ?_
   refine xn ?_
   refine W.k fun K hK=>?_
   simp(disch:=omega)only[↓RU,RV,RH,↓reduceIte,qE,reduceCtorEq,if_pos,w64,↓RS,RG,qA,qM,qL,zaa,zad]
   apply hK;clear hK K
   refine xn ?_
   refine ⟨t.w - (k+1),by omega,4,k+1,_,rfl,by omega,by omega,fun j j1 j2=>?_,?_,?_,rfl⟩
   ·rcases Nat.lt_succ_iff_lt_or_eq.1 j2 with h | rfl
    ·exact hall j j1 h
    exact hth
   ·exact Nat.le_trans htk (Nat.le_add_right _ 2)
   simp [Env.put,Env.of]; omega
  skip
  have hq:zcv (zah p) t=some (false,k):=by unfold zcv; rw [zel.2 ⟨hk1,by omega,hth,hall⟩]
  simp(disch:=omega)only[↓RU,RV,RH,↓reduceIte,qE,reduceCtorEq,if_pos,qN,↓RS,RG,qA,qM,qL,ty6,zau,za5,zer,zap,zaa,za6,zes,zaq,zad,hgu,hth]
  refine zac.pc (zec hgw (rP p) ht (level:=false) (line:=t.c+k) (by omega) (by simp; omega)) rfl (.inl rfl) ?_
  simp(disch:=omega)only[↓RU,RV,RH,↓reduceIte,qE,reduceCtorEq,if_pos,qN,↓RS,RG,qA,qM,qL,ty6,zau,za5,zer,zap,zaa,za6,zes,zaq,zad,hgu,hth]
  refine zy5.ey (hy _ hq _ _ _ (Nat.le_trans htk (Nat.le_add_right _ 2))) ?_
  rintro _ _ ⟨rfl,tk3,rfl⟩
  simp(disch:=omega)only[↓RU,RV,RH,↓reduceIte,qE,reduceCtorEq,if_pos,qN,↓RS,RG,qA,qM,qL,ty6,zau,za5,zer,zap,zaa,za6,zes,zaq,zad,hgu,hth]
  apply hK;clear hK K
  refine W.cond rfl (fun h1=>?_) (fun h1=>?_)
  ·try simp only[RL]at h1
   refine W.ret ?_
   refine XBlock.ret ?_
   refine XThen.ret ?_
   refine XThen.ret ?_
   refine XBlock.ret ?_
   refine XThen.ret ?_
   refine Br rfl ?_
   exact ⟨4,.inr ⟨_,_,hq,rfl⟩⟩
  try simp only[RL]at h1
  exact absurd h1 (by simp)
 try simp only[RL]at h
 obtain rfl:k=t.w:=by omega
 refine W.exit ?_
 refine xe ?_
 refine xe ?_
 refine XBlock.hit ?_
 refine xn ?_
 refine W.r fun K hK=>?_
 simp(disch:=omega)only[↓RU,RV,RH,↓reduceIte,qE,reduceCtorEq,if_pos,w64,↓RS,RG,qA,qM,qL,ty6,za5,zap,zaa,za6,zaq,zad]
 apply hK;clear hK K
 refine W.block ?_
 refine W.loop [0,1,6] (fun n vs S=>∃ k tk2:Nat,n=t.h - k∧1≤k∧k≤t.h∧(∀ j,1≤j→j<k→thL (zah p) t j=false)∧tk≤tk2∧vs=[.yl l,.ip [zaw (gP p) (rP p),.int .i64 t.r,.int .i64 t.c,.int .i64 t.h,.int .i64 t.w] 0,.int .i64 ((t.r+k:Nat):Int)]∧S=⟨[a,b,c,d],tk2⟩) (t.h - 1) ?_ ?_
 ·refine ⟨4,1,_,rfl,by omega,by omega,fun j _ _=>by omega,htk,?_,rfl⟩
  simp [Env.put,Env.of,zag]
 rintro n vs S - ⟨k,tk2,rfl,hk1,h_k,hall2,htk,rfl,rfl⟩
 refine W.seq ?_
 refine W.r fun K hK=>?_
 simp(disch:=omega)only[↓RU,RV,RH,↓reduceIte,qE,reduceCtorEq,if_pos,w64,↓RS,RG,qA,qM,qL,ty6,za5,zap,zaa,za6,zaq,zad]
 apply hK;clear hK K
 refine W.cond rfl (fun h=>?_) (fun h=>?_)
 ·try simp only[RL]at h
  have hgu:=yf3 hp ht hk1 (show k<t.h by omega)
  have e1:((t.h:Nat):Int) - ((k:Nat):Int)=((t.h - k:Nat):Int):=by omega
  refine W.skip ?_
  refine xn ?_
  refine W.seq ?_
  refine W.block ?_
  refine W.seq (W.draw_two (r1:=[_,_,_,_,_,_]) (r2:=[_,_,_,_,_,_]) [0,1,2,3,4,5] [0,1,3,2,4,5] [0,1] 2 3 1 rfl (by kernel_rfl) (by kernel_rfl) rfl rfl (fun K hK=>?_) (fun K hK=>?_))
  ·simp(disch:=omega)only[↓RU,RV,RH,↓reduceIte,qE,reduceCtorEq,if_pos,↓RS,RG,qA,qM,qL,ty6,za5,zap,zaa,za6,zaq,zad]
   apply hK;clear hK K
   refine xn ?_
   refine W.r fun K hK=>?_
   simp(disch:=omega)only[↓RU,RV,RH,↓reduceIte,qE,reduceCtorEq,if_pos,w64,↓RS,RG,qA,qM,qL,ty6,za5,zap,zaa,za6,zaq,zad]
   apply hK;clear hK K
   refine W.seq_pk 11 [some 81,some 82,some 83,some 84,some 85,some 86] [4] (by decide) (by kernel_rfl) fun K hK=>?_
   simp only[List.take_succ_cons,List.take_zero,List.drop_succ_cons,List.drop_zero]
   refine zas rfl ?_
   simp(disch:=omega)only[↓RU,RV,RH,↓reduceIte,qE,reduceCtorEq,if_pos,w64,↓RS,RG,qA,qM,qL,ty6,za5,zap,zaa,za6,zaq,zad,e1,zaj,zam]
   refine zan (.ip [zaw (gP p) (rP p),.int .i64 t.r,.int .i64 t.c,.int .i64 t.h,.int .i64 t.w] 1) rfl rfl rfl (fun S' hS=>?_) ?_
   ·skip
    have k4:=(hS 4 (by decide)).trans (show _=some _ from rfl)
    simp(disch:=omega)only[↓RU,RV,RH,↓reduceIte,qE,reduceCtorEq,if_pos,w64,↓RS,RG,qA,qM,qL,ty6,za5,zap,zaa,za6,zaq,zad,e1,zbe,zb7,zdj,zdk,k4]
   refine zan (.ip [zaw (gP p) (rP p),.int .i64 t.r,.int .i64 t.c,.int .i64 t.h,.int .i64 t.w] 3) rfl rfl rfl (fun S' hS=>?_) ?_
   ·skip
    have k4:=(hS 4 (by decide)).trans (show _=some _ from rfl)
    simp(disch:=omega)only[↓RU,RV,RH,↓reduceIte,qE,reduceCtorEq,if_pos,w64,↓RS,RG,qA,qM,qL,ty6,za5,zap,zaa,za6,zaq,zad,e1,zbe,zb7,zdj,zdk,k4]
   refine zan (.int .i64 t.h) rfl rfl rfl (fun S' hS=>?_) ?_
   ·skip
    have k4:=(hS 4 (by decide)).trans (show _=some _ from rfl)
    simp(disch:=omega)only[↓RU,RV,RH,↓reduceIte,qE,reduceCtorEq,if_pos,w64,↓RS,RG,qA,qM,qL,ty6,za5,zap,zaa,za6,zaq,zad,e1,zbe,zb7,zdj,zdk,k4]
   refine zan (.ref 4 tk2 1) rfl rfl rfl (fun S' hS=>?_) ?_
   ·skip
    have k4:=(hS 4 (by decide)).trans (show _=some _ from rfl)
    simp(disch:=omega)only[↓RU,RV,RH,↓reduceIte,qE,reduceCtorEq,if_pos,w64,↓RS,RG,qA,qM,qL,ty6,za5,zap,zaa,za6,zaq,zad,e1,zbe,zb7,zdj,zdk,k4]
   refine zan (.ref 4 tk2 3) rfl rfl rfl (fun S' hS=>?_) ?_
   ·skip
    have k4:=(hS 4 (by decide)).trans (show _=some _ from rfl)
    simp(disch:=omega)only[↓RU,RV,RH,↓reduceIte,qE,reduceCtorEq,if_pos,w64,↓RS,RG,qA,qM,qL,ty6,za5,zap,zaa,za6,zaq,zad,e1,zbe,zb7,zdj,zdk,k4]
   refine zan (.int .i64 k) rfl rfl rfl (fun S' hS=>?_) ?_
   ·skip
    have k4:=(hS 4 (by decide)).trans (show _=some _ from rfl)
    simp(disch:=omega)only[↓RU,RV,RH,↓reduceIte,qE,reduceCtorEq,if_pos,w64,↓RS,RG,qA,qM,qL,ty6,za5,zap,zaa,za6,zaq,zad,e1,zbe,zb7,zdj,zdk,k4]
   refine zas rfl ?_
   simp(disch:=omega)only[↓RU,RV,RH,↓reduceIte,qE,reduceCtorEq,if_pos,w64,↓RS,RG,qA,qM,qL,ty6,za5,zap,zaa,za6,zaq,zad,e1,zaj,zam]
   refine zas rfl ?_
   simp(disch:=omega)only[↓RU,RV,RH,↓reduceIte,qE,reduceCtorEq,if_pos,w64,↓RS,RG,qA,qM,qL,ty6,za5,zap,zaa,za6,zaq,zad,e1,zaj,zam]
   refine zas rfl ?_
   simp(disch:=omega)only[↓RU,RV,RH,↓reduceIte,qE,reduceCtorEq,if_pos,w64,↓RS,RG,qA,qM,qL,ty6,za5,zap,zaa,za6,zaq,zad,e1,zaj,zam]
   refine zas rfl ?_
   simp(disch:=omega)only[↓RU,RV,RH,↓reduceIte,qE,reduceCtorEq,if_pos,w64,↓RS,RG,qA,qM,qL,ty6,za5,zap,zaa,za6,zaq,zad,e1,zaj,zam]
   refine zfb ?_
   simp(disch:=omega)only[↓RU,RV,RH,↓reduceIte,qE,reduceCtorEq,if_pos,w64,↓RS,RG,qA,qM,qL,ty6,za5,zap,zaa,za6,zaq,zad,e1]
   apply hK;clear hK K
   refine W.r fun K hK=>?_
   cases hth:thL (zah p) t k
   ·skip
    simp(disch:=omega)only[↓RU,RV,RH,↓reduceIte,qE,reduceCtorEq,if_pos,qN,↓RS,RG,qA,qM,qL,ty6,zau,za5,zer,zap,zaa,za6,zes,zaq,zad,hgu,hth]
    refine zac.pc (zec hgw (rP p) ht (level:=true) (line:=t.r+k) (by omega) (by simp; omega)) rfl (.inl rfl) ?_
    simp(disch:=omega)only[↓RU,RV,RH,↓reduceIte,qE,reduceCtorEq,if_pos,qN,↓RS,RG,qA,qM,qL,ty6,zau,za5,zer,zap,zaa,za6,zes,zaq,zad,hgu,hth]
    apply hK;clear hK K
    refine W.cond rfl (fun h1=>?_) (fun h1=>?_)
    ·try simp only[RL]at h1
     exact absurd h1 (by simp)
    try simp only[RL]at h1
    refine W.skip ?_
    refine XbN ?_
    refine xn ?_
    refine W.k fun K hK=>?_
    simp(disch:=omega)only[↓RU,RV,RH,↓reduceIte,qE,reduceCtorEq,if_pos,w64,↓RS,RG,qA,qM,qL,zaa,zad]
    apply hK;clear hK K
    refine xn ?_
    refine ⟨t.h - (k+1),by omega,4,k+1,_,rfl,by omega,by omega,fun j j1 j2=>?_,?_,?_,rfl⟩
    ·rcases Nat.lt_succ_iff_lt_or_eq.1 j2 with h | rfl
     ·exact hall2 j j1 h
     exact hth
    ·exact Nat.le_trans htk (Nat.le_add_right _ 2)
    simp [Env.put,Env.of]; omega
   skip
   have hq:zcv (zah p) t=some (true,k):=by unfold zcv; rw [zik.2 hall,zel.2 ⟨hk1,by omega,hth,hall2⟩]
   simp(disch:=omega)only[↓RU,RV,RH,↓reduceIte,qE,reduceCtorEq,if_pos,qN,↓RS,RG,qA,qM,qL,ty6,zau,za5,zer,zap,zaa,za6,zes,zaq,zad,hgu,hth]
   refine zac.pc (zec hgw (rP p) ht (level:=true) (line:=t.r+k) (by omega) (by simp; omega)) rfl (.inl rfl) ?_
   simp(disch:=omega)only[↓RU,RV,RH,↓reduceIte,qE,reduceCtorEq,if_pos,qN,↓RS,RG,qA,qM,qL,ty6,zau,za5,zer,zap,zaa,za6,zes,zaq,zad,hgu,hth]
   refine zy5.ey (hy _ hq _ _ _ (Nat.le_trans htk (Nat.le_add_right _ 2))) ?_
   rintro _ _ ⟨rfl,tk3,rfl⟩
   simp(disch:=omega)only[↓RU,RV,RH,↓reduceIte,qE,reduceCtorEq,if_pos,qN,↓RS,RG,qA,qM,qL,ty6,zau,za5,zer,zap,zaa,za6,zes,zaq,zad,hgu,hth]
   apply hK;clear hK K
   refine W.cond rfl (fun h1=>?_) (fun h1=>?_)
   ·try simp only[RL]at h1
    refine W.ret ?_
    refine XBlock.ret ?_
    refine XThen.ret ?_
    refine XThen.ret ?_
    refine XBlock.ret ?_
    refine Br rfl ?_
    exact ⟨4,.inr ⟨_,_,hq,rfl⟩⟩
   try simp only[RL]at h1
   exact absurd h1 (by simp)
  simp(disch:=omega)only[↓RU,RV,RH,↓reduceIte,qE,reduceCtorEq,if_pos,↓RS,RG,qA,qM,qL,ty6,za5,zap,zaa,za6,zaq,zad]
  apply hK;clear hK K
  refine xn ?_
  refine W.r fun K hK=>?_
  simp(disch:=omega)only[↓RU,RV,RH,↓reduceIte,qE,reduceCtorEq,if_pos,w64,↓RS,RG,qA,qM,qL,ty6,za5,zap,zaa,za6,zaq,zad]
  apply hK;clear hK K
  refine W.seq_pk 11 [some 81,some 82,some 83,some 84,some 85,some 86] [5] (by decide) (by kernel_rfl) fun K hK=>?_
  simp only[List.take_succ_cons,List.take_zero,List.drop_succ_cons,List.drop_zero]
  refine zas rfl ?_
  simp(disch:=omega)only[↓RU,RV,RH,↓reduceIte,qE,reduceCtorEq,if_pos,w64,↓RS,RG,qA,qM,qL,ty6,za5,zap,zaa,za6,zaq,zad,e1,zaj,zam]
  refine zan (.ip [zaw (gP p) (rP p),.int .i64 t.r,.int .i64 t.c,.int .i64 t.h,.int .i64 t.w] 1) rfl rfl rfl (fun S' hS=>?_) ?_
  ·skip
   have k5:=(hS 5 (by decide)).trans (show _=some _ from rfl)
   simp(disch:=omega)only[↓RU,RV,RH,↓reduceIte,qE,reduceCtorEq,if_pos,w64,↓RS,RG,qA,qM,qL,ty6,za5,zap,zaa,za6,zaq,zad,e1,zbe,zb7,zdj,zdk,k5]
  refine zan (.ip [zaw (gP p) (rP p),.int .i64 t.r,.int .i64 t.c,.int .i64 t.h,.int .i64 t.w] 3) rfl rfl rfl (fun S' hS=>?_) ?_
  ·skip
   have k5:=(hS 5 (by decide)).trans (show _=some _ from rfl)
   simp(disch:=omega)only[↓RU,RV,RH,↓reduceIte,qE,reduceCtorEq,if_pos,w64,↓RS,RG,qA,qM,qL,ty6,za5,zap,zaa,za6,zaq,zad,e1,zbe,zb7,zdj,zdk,k5]
  refine zan (.int .i64 t.h) rfl rfl rfl (fun S' hS=>?_) ?_
  ·skip
   have k5:=(hS 5 (by decide)).trans (show _=some _ from rfl)
   simp(disch:=omega)only[↓RU,RV,RH,↓reduceIte,qE,reduceCtorEq,if_pos,w64,↓RS,RG,qA,qM,qL,ty6,za5,zap,zaa,za6,zaq,zad,e1,zbe,zb7,zdj,zdk,k5]
  refine zan (.ref 5 (tk2+1) 1) rfl rfl rfl (fun S' hS=>?_) ?_
  ·skip
   have k5:=(hS 5 (by decide)).trans (show _=some _ from rfl)
   simp(disch:=omega)only[↓RU,RV,RH,↓reduceIte,qE,reduceCtorEq,if_pos,w64,↓RS,RG,qA,qM,qL,ty6,za5,zap,zaa,za6,zaq,zad,e1,zbe,zb7,zdj,zdk,k5]
  refine zan (.ref 5 (tk2+1) 3) rfl rfl rfl (fun S' hS=>?_) ?_
  ·skip
   have k5:=(hS 5 (by decide)).trans (show _=some _ from rfl)
   simp(disch:=omega)only[↓RU,RV,RH,↓reduceIte,qE,reduceCtorEq,if_pos,w64,↓RS,RG,qA,qM,qL,ty6,za5,zap,zaa,za6,zaq,zad,e1,zbe,zb7,zdj,zdk,k5]
  refine zan (.int .i64 k) rfl rfl rfl (fun S' hS=>?_) ?_
  ·skip
   have k5:=(hS 5 (by decide)).trans (show _=some _ from rfl)
   simp(disch:=omega)only[↓RU,RV,RH,↓reduceIte,qE,reduceCtorEq,if_pos,w64,↓RS,RG,qA,qM,qL,ty6,za5,zap,zaa,za6,zaq,zad,e1,zbe,zb7,zdj,zdk,k5]
  refine zas rfl ?_
  simp(disch:=omega)only[↓RU,RV,RH,↓reduceIte,qE,reduceCtorEq,if_pos,w64,↓RS,RG,qA,qM,qL,ty6,za5,zap,zaa,za6,zaq,zad,e1,zaj,zam]
  refine zas rfl ?_
  simp(disch:=omega)only[↓RU,RV,RH,↓reduceIte,qE,reduceCtorEq,if_pos,w64,↓RS,RG,qA,qM,qL,ty6,za5,zap,zaa,za6,zaq,zad,e1,zaj,zam]
  refine zas rfl ?_
  simp(disch:=omega)only[↓RU,RV,RH,↓reduceIte,qE,reduceCtorEq,if_pos,w64,↓RS,RG,qA,qM,qL,ty6,za5,zap,zaa,za6,zaq,zad,e1,zaj,zam]
  refine zas rfl ?_
  simp(disch:=omega)only[↓RU,RV,RH,↓reduceIte,qE,reduceCtorEq,if_pos,w64,↓RS,RG,qA,qM,qL,ty6,za5,zap,zaa,za6,zaq,zad,e1,zaj,zam]
  refine zfb ?_
  simp(disch:=omega)only[↓RU,RV,RH,↓reduceIte,qE,reduceCtorEq,if_pos,w64,↓RS,RG,qA,qM,qL,ty6,za5,zap,zaa,za6,zaq,zad,e1]
  apply hK;clear hK K
  refine W.r fun K hK=>?_
  cases hth:thL (zah p) t k
  ·skip
   simp(disch:=omega)only[↓RU,RV,RH,↓reduceIte,qE,reduceCtorEq,if_pos,qN,↓RS,RG,qA,qM,qL,ty6,zau,za5,zer,zap,zaa,za6,zes,zaq,zad,hgu,hth]
   refine zac.pc (zec hgw (rP p) ht (level:=true) (line:=t.r+k) (by omega) (by simp; omega)) rfl (.inl rfl) ?_
   simp(disch:=omega)only[↓RU,RV,RH,↓reduceIte,qE,reduceCtorEq,if_pos,qN,↓RS,RG,qA,qM,qL,ty6,zau,za5,zer,zap,zaa,za6,zes,zaq,zad,hgu,hth]
   apply hK;clear hK K
   refine W.cond rfl (fun h1=>?_) (fun h1=>?_)
   ·try simp only[RL]at h1
    exact absurd h1 (by simp)
   try simp only[RL]at h1
   refine W.skip ?_
   refine XbN ?_
   refine xn ?_
   refine W.k fun K hK=>?_
   simp(disch:=omega)only[↓RU,RV,RH,↓reduceIte,qE,reduceCtorEq,if_pos,w64,↓RS,RG,qA,qM,qL,zaa,zad]
   apply hK;clear hK K
   refine xn ?_
   refine ⟨t.h - (k+1),by omega,4,k+1,_,rfl,by omega,by omega,fun j j1 j2=>?_,?_,?_,rfl⟩
   ·rcases Nat.lt_succ_iff_lt_or_eq.1 j2 with h | rfl
    ·exact hall2 j j1 h
    exact hth
   ·exact Nat.le_trans htk (Nat.le_add_right _ 2)
   simp [Env.put,Env.of]; omega
  skip
  have hq:zcv (zah p) t=some (true,k):=by unfold zcv; rw [zik.2 hall,zel.2 ⟨hk1,by omega,hth,hall2⟩]
  simp(disch:=omega)only[↓RU,RV,RH,↓reduceIte,qE,reduceCtorEq,if_pos,qN,↓RS,RG,qA,qM,qL,ty6,zau,za5,zer,zap,zaa,za6,zes,zaq,zad,hgu,hth]
  refine zac.pc (zec hgw (rP p) ht (level:=true) (line:=t.r+k) (by omega) (by simp; omega)) rfl (.inl rfl) ?_
  simp(disch:=omega)only[↓RU,RV,RH,↓reduceIte,qE,reduceCtorEq,if_pos,qN,↓RS,RG,qA,qM,qL,ty6,zau,za5,zer,zap,zaa,za6,zes,zaq,zad,hgu,hth]
  refine zy5.ey (hy _ hq _ _ _ (Nat.le_trans htk (Nat.le_add_right _ 2))) ?_
  rintro _ _ ⟨rfl,tk3,rfl⟩
  simp(disch:=omega)only[↓RU,RV,RH,↓reduceIte,qE,reduceCtorEq,if_pos,qN,↓RS,RG,qA,qM,qL,ty6,zau,za5,zer,zap,zaa,za6,zes,zaq,zad,hgu,hth]
  apply hK;clear hK K
  refine W.cond rfl (fun h1=>?_) (fun h1=>?_)
  ·try simp only[RL]at h1
   refine W.ret ?_
   refine XBlock.ret ?_
   refine XThen.ret ?_
   refine XThen.ret ?_
   refine XBlock.ret ?_
   refine Br rfl ?_
   exact ⟨4,.inr ⟨_,_,hq,rfl⟩⟩
  try simp only[RL]at h1
  exact absurd h1 (by simp)
 try simp only[RL]at h
 obtain rfl:k=t.h:=by omega
 refine W.exit ?_
 refine xe ?_
 refine xe ?_
 refine XBlock.hit ?_
 refine zjd.norm rfl ?_
 exact ⟨4,.inl ⟨_,z3a.2 ⟨hall,hall2⟩,rfl⟩⟩
def ycx:PV := .agg [.bool false,.nilp,.int .i64 0,.int .i64 0,.int .i64 0,.int .i64 0,.nilp,.int .i64 0,.int .i64 0,.int .i64 0,.int .i64 0]
def zqm (p:List Txt) (t:Pt):PV:=match zcv (zah p) t with | some q => .tup [z1d (gP p) (rP p) t q,.bool true] | none => .tup [ycx,.bool false]
theorem zou {p:List Txt} (hp:zaz p=true) {t:Pt} (ht:t.In p.length (zal p).length):PC Tryz.prog 132 [zd0 (gP p) (rP p) t.rect] (zqm p t) false:=by
 simp only[zd0,Pt.rect,Rect.cells]
 refine PC.ofV ⟨Tryz.func132,by kernel_rfl,rfl,by kernel_rfl⟩ zao mixed (by show 1≤Tryz.f132.ntmps; decide) ?_
 refine V.seq_region fun K hK=>?_
 simp(disch:=omega)only[↓RU,RV,RH,↓reduceIte,qE,reduceCtorEq,if_pos,↓RS,RG,qA,qM,qL,ty6,zau,za5,zer,zap,zaa,za6,zes,zaq]
 apply hK;clear hK K
 refine V.seq ?_
 refine V.seq_region fun K hK=>?_
 simp(disch:=omega)only[↓RU,RV,RH,↓reduceIte,qE,reduceCtorEq,if_pos,qN,↓RS,RG,qA,qM,qL,ty6,za5,zap,zaa,za6,zaq]
 refine zac.pc (yce (gP p) (rP p) t.rect) rfl (.inr rfl) ?_
 simp(disch:=omega)only[↓RU,RV,RH,↓reduceIte,qE,reduceCtorEq,if_pos,qN,↓RS,RG,qA,qM,qL,ty6,za5,zap,zaa,za6,zaq]
 apply hK;clear hK K
 refine V.block ?_
 refine V.rangeFunc [2,3] rfl fun l r hr hst hpd=>?_
 refine ⟨_,z84 hp ht l _ _ _ _ _ (fun q => .arr 1 82 11 [.bool q.1,zaw (gP p) (rP p),.int .i64 (t.one q).r,.int .i64 (t.one q).c,.int .i64 (t.one q).h,.int .i64 (t.one q).w,zaw (gP p) (rP p),.int .i64 (t.two q).r,.int .i64 (t.two q).c,.int .i64 (t.two q).h,.int .i64 (t.two q).w]) (fun _ => .arr 2 4 1 [.bool true]) (fun _ => .lp 3 l ({ r with state := .done,pending:=some .ret },[2,3]) [.ref 1 1 0,.ref 2 2 0]) (fun q hq x y tk2 htk=>?_),?_⟩
 ·refine Ey.of (o:=3) zao mixed rfl hr hst rfl ?_
  change W _ _ _ _ (Env.put (Env.of [2,3] [.ref 1 1 0,.ref 2 2 0]) (some 7) (.agg [.bool q.1,zaw (gP p) (rP p),.int .i64 (t.one q).r,.int .i64 (t.one q).c,.int .i64 (t.one q).h,.int .i64 (t.one q).w,zaw (gP p) (rP p),.int .i64 (t.two q).r,.int .i64 (t.two q).c,.int .i64 (t.two q).h,.int .i64 (t.two q).w])) _
  refine W.k fun K hK=>?_
  simp(disch:=omega)only[↓RU,RV,RH,↓reduceIte,qE,reduceCtorEq,if_pos,↓RS,RG,qA,qM,qL,ty6,zau,za5,zer,zap,zaa,za6,zes,zaq]
  apply hK;clear hK K
  refine xn ⟨_,_,_,_,rfl,hst,?_⟩
  simp only[List.set_cons_succ,List.set_cons_zero]
  refine W.block ?_
  refine W.r fun K hK=>?_
  simp(disch:=omega)only[↓RU,RV,RH,↓reduceIte,qE,reduceCtorEq,if_pos,↓RS,RG,qA,qM,qL,ty6,zau,za5,zer,zap,zaa,za6,zes,zaq]
  apply hK;clear hK K
  refine W.ret ?_
  refine XBlock.ret ?_
  exact ⟨_,_,_,_,6,rfl,rfl,_,rfl⟩
 rintro v S2 (⟨tk2,hq,rfl⟩ | ⟨q,tk2,hq,rfl⟩)
 ·skip
  refine ⟨_,_,_,_,.normal,rfl,by rw [hst]; simp,by rw [hpd]; rfl,?_⟩
  change XBlock _ _ _ _ ⟨[_,_,_],_⟩
  refine XbN ?_
  refine xn ?_
  refine W.v ?_
  refine W.r fun K hK=>?_
  simp(disch:=omega)only[↓RU,RV,RH,↓reduceIte,qE,reduceCtorEq,if_pos,↓RS,RG,qA,qM,qL,ty6,zau,za5,zer,zap,zaa,za6,zes,zaq]
  apply hK;clear hK K
  refine W.ret ?_
  refine Br rfl ?_
  simp only[zqm,hq]
  rfl
 skip
 refine ⟨_,_,_,_,.ret,rfl,by simp,rfl,?_⟩
 change XBlock _ _ _ _ ⟨[_,_,_],_⟩
 refine XBlock.ret ?_
 refine XThen.ret ?_
 refine Br rfl ?_
 simp only[zqm,hq]
 rfl
def zqn {α:Type} (enc:α→PV) (zero:PV) (room:Int→α) (cut:Bool→α→α→α):Option CT→PV
 | some x => .tup [enc (x.fold room cut),.bool true]
 | none => .tup [zero,.bool false]
theorem zw0 {α:Type} {enc:α→PV} {zero:PV} {room:Int→α} {cut:Bool→α→α→α} (o:Option CT):∃ v b,zqn enc zero room cut o = .tup [v,.bool b]:=by
 cases o with
 | none=>exact ⟨_,_,rfl⟩
 | some x=>exact ⟨_,_,rfl⟩
theorem z4h (a b:Option CT):a=none∨(∃ x,a=some x∧b=none)∨∃ x y,a=some x∧b=some y:=by
 cases a <;> cases b <;> simp
theorem zcw {p:List Txt} (hp:zaz p=true):(rP p).length≤9∧∀ b∈rP p,b.Fit:=by
 have hN:=zdi hp
 have h1:=hN.rooms
 have h2:zbo p≤9:=by unfold zaz at hp; simp only[qB,decide_eq_true_eq]at hp; exact hp.1.2
 have hsm:=zay hN.hg
 obtain ⟨row0,hr0,hm0⟩:=zaf hsm.1
 have hh:=zca hr0
 have hw6:=hsm.2.2 row0 hm0
 have hw1:=zfn hN.hg hr0
 rw [← hh]at hw6 hw1
 have hok:=(ziv (g:=zbm p) hw6 hw1 p.length hsm.2.1).1
 rw [← z91]at hok
 exact ⟨by omega,hok.2⟩
theorem zpn {p:List Txt} (hp:zaz p=true) {t:Pt} (h:t.In p.length (zal p).length):t.rect.Fit:=by
 have hg:=zzz hp
 obtain ⟨g1,g2,g3,g4⟩:=hg.2.2
 unfold Pt.In at h
 simp only[Rect.Fit,Pt.rect]
 omega
def yax (a:Int):Txt:=(Utf8.encode (65+a)).data.toList
theorem ycb {a:Int} (h0:0≤a) (h1:a<9):(yax a).length≤4:=by
 obtain ⟨n,rfl⟩:=Int.eq_ofNat_of_zero_le h0
 have:n=0∨n=1∨n=2∨n=3∨n=4∨n=5∨n=6∨n=7∨n=8:=by omega
 rcases this with rfl | rfl | rfl | rfl | rfl | rfl | rfl | rfl | rfl <;> decide +kernel
theorem z6d (lv:Bool):(if lv then [(104:UInt8)] else [118]).length=1:=by cases lv <;> rfl
def yay (lv:Bool) (x y:Txt):Txt:=(if lv then [104] else [118])++x++y
theorem z03 {x:CT} (h:∀ a∈x.leaves,0≤a∧a<9):(x.fold yax yay).length+1≤5*x.leaves.length:=by
 induction x with
 | leaf a=>have:=h a (by simp [CT.leaves]); have:=ycb this.1 this.2; simp only[CT.fold,CT.leaves,List.length_singleton]; omega
 | node lv x y h1 h2 =>
  have k1:=h1 fun a ha=>h a (by simp [CT.leaves,ha])
  have k2:=h2 fun a ha=>h a (by simp [CT.leaves,ha])
  have p1:=x.pos
  have p2:=y.pos
  have e:(if lv then [(104:UInt8)] else [118]).length=1:=z6d lv
  simp only[CT.fold,CT.leaves,yay,List.length_append,e] at *
  omega
theorem w32r {x:Int} (h1:0≤x) (h2:x<1000):IntKind.i32.wrap x=x:=by
 simp [IntKind.wrap,IntKind.bits,IntKind.signed]; omega
theorem zll {p:List Txt} (hp:zaz p=true) {t:Pt} (hw:Whole (zah p) p.length (zal p).length t) {x:CT} (hx:zc7 (zah p) t=some x):(∀ a∈x.leaves,0≤a∧a<(rP p).length)∧x.leaves.length≤9:=by
 obtain ⟨h1,h2,h3⟩:=zlr (zrj hp) _ hw (qR _) hx
 have hin:=hw.inn
 unfold Pt.In at hin
 have hb:∀ a∈x.leaves,0≤a∧a<(rP p).length:=by
  intro a ha
  obtain ⟨i,j,e1,e2,e3,e4,e5⟩:=(h2 a).1 ha
  have:=zje hp (i:=i) (j:=j) (by omega) (by omega)
  omega
 have:=zvd h1 hb
 have:=(zcw hp).1
 exact ⟨hb,by omega⟩
theorem zw1 {p:List Txt} (hp:zaz p=true) {rf cf:FuncId} {rc cc:List PV} (hr9:∀ S,rc.mapM (reify S true 9)=some rc) (hr10:∀ S,rc.mapM (reify S true 10)=some rc) (hc9:∀ S,cc.mapM (reify S true 9)=some cc) (hc10:∀ S,cc.mapM (reify S true 10)=some cc)
  {room:Int→Txt} {cut:Bool→Txt→Txt→Txt} (hroom:∀ a:Int,0≤a→a<(rP p).length→PC Tryz.prog rf (.int .i64 a::rc) ((fun x:Txt=>PV.str x) (room a)) true)
  (hcut:∀ (t:Pt) q x y,Whole (zah p) p.length (zal p).length t→zcv (zah p) t=some q→zc7 (zah p) (t.one q)=some x→zc7 (zah p) (t.two q)=some y→PC Tryz.prog cf (z1d (gP p) (rP p) t q::(fun x:Txt=>PV.str x) (x.fold room cut)::(fun x:Txt=>PV.str x) (y.fold room cut)::cc) ((fun x:Txt=>PV.str x) (cut q.1 (x.fold room cut) (y.fold room cut))) true) {t:Pt} (hw:Whole (zah p) p.length (zal p).length t) (ih:∀ t':Pt,Whole (zah p) p.length (zal p).length t'→t'.h*t'.w<t.h*t.w→PC Tryz.prog 39 [zd0 (gP p) (rP p) t'.rect,.fn rf rc,.fn cf cc] (zqn (fun x:Txt=>PV.str x) (.str []) room cut (zc7 (zah p) t')) true):PC Tryz.prog 39 [zd0 (gP p) (rP p) t.rect,.fn rf rc,.fn cf cc] (zqn (fun x:Txt=>PV.str x) (.str []) room cut (zc7 (zah p) t)) true:=by
 have hin:=hw.inn
 unfold Pt.In at hin
 obtain ⟨hn9,hfit⟩:=zcw hp
 have hv:0≤zah p t.r t.c∧zah p t.r t.c<(rP p).length:=zje hp (by omega) (by omega)
 change PC _ _ [.agg [zaw (gP p) (rP p),.int .i64 t.r,.int .i64 t.c,.int .i64 t.h,.int .i64 t.w],.fn rf rc,.fn cf cc] _ _
 refine PC.of ⟨Tryz.func39,by kernel_rfl,rfl,by kernel_rfl⟩ zao mixed (by show 3≤Tryz.f39.ntmps; decide) ?_
 refine W.r fun K hK=>?_
 simp(disch:=omega)only[↓RU,RV,RH,↓reduceIte,qE,reduceCtorEq,if_pos,↓RS,RG,qA,qM,qL,ty6,za5,zap,zaa,za6,zaq]
 apply hK;clear hK K
 refine W.r fun K hK=>?_
 simp(disch:=omega)only[↓RU,RV,RH,↓reduceIte,qE,reduceCtorEq,if_pos,↓RS,RG,qA,qM,qL]
 apply hK;clear hK K
 refine W.seq ?_
 refine W.r fun K hK=>?_
 cases h1:zl4 (zah p) t
 ·skip
  have hmore:=zvp hp hw h1
  have hL:=zu9 (gP p) (by omega) hfit (zpn hp hw.inn)
  simp(disch:=omega)only[↓RU,RV,RH,↓reduceIte,qE,reduceCtorEq,if_pos,qN,↓RS,RG,qA,qM,qL,ty6,za5,zap,zaa,za6,zaq]
  refine zac.pc (hL) rfl (.inl rfl) ?_
  simp(disch:=omega)only[↓RU,RV,RH,↓reduceIte,qE,reduceCtorEq,if_pos,qN,↓RS,RG,qA,qM,qL,ty6,za5,zap,zaa,za6,zaq]
  apply hK;clear hK K
  refine W.r fun K hK=>?_
  simp(disch:=omega)only[↓RU,RV,RH,↓reduceIte,qE,reduceCtorEq,if_pos,w64,↓RS,RG,qA,qM,qL,zae,zaa]
  apply hK;clear hK K
  refine W.cond rfl (fun h0=>?_) (fun h0=>?_)
  ·try simp only[RL]at h0
   exfalso; omega
  try simp only[RL]at h0
  refine W.skip ?_
  refine xn ?_
  refine W.r fun K hK=>?_
  rcases hq:zcv (zah p) t with _ | q
  ·skip
   have hF:PC Tryz.prog 132 [zd0 (gP p) (rP p) t.rect] (.tup [.agg [.bool false,.nilp,.int .i64 0,.int .i64 0,.int .i64 0,.int .i64 0,.nilp,.int .i64 0,.int .i64 0,.int .i64 0,.int .i64 0],.bool false]) false:=by have h:=zou hp hw.inn; simp only[zqm,hq]at h; exact h
   simp(disch:=omega)only[↓RU,RV,RH,↓reduceIte,qE,reduceCtorEq,if_pos,qN,↓RS,RG,qA,qM,qL,ty6,zau,za5,zer,zap,zaa,za6,zes,zaq]
   refine zac.pc (hF) rfl (.inr rfl) ?_
   simp(disch:=omega)only[↓RU,RV,RH,↓reduceIte,qE,reduceCtorEq,if_pos,qN,↓RS,RG,qA,qM,qL,ty6,zau,za5,zer,zap,zaa,za6,zes,zaq]
   apply hK;clear hK K
   refine W.seq ?_
   refine W.r fun K hK=>?_
   simp(disch:=omega)only[↓RU,RV,RH,↓reduceIte,qE,reduceCtorEq,if_pos,↓RS,RG,qA,qM,qL]
   apply hK;clear hK K
   refine W.cond rfl (fun h2=>?_) (fun h2=>?_)
   ·try simp only[RL]at h2
    refine W.r fun K hK=>?_
    simp(disch:=omega)only[↓RU,RV,RH,↓reduceIte,qE,reduceCtorEq,if_pos,↓RS,RG,qA,qM,qL]
    apply hK;clear hK K
    refine W.ret ?_
    refine XThen.ret ?_
    refine Br rfl ?_
    rw [zix hw.inn h1 hq]
    rfl
   try simp only[RL]at h2
   exact absurd h2 (by simp)
  skip
  have hF:PC Tryz.prog 132 [zd0 (gP p) (rP p) t.rect] (.tup [.agg [.bool q.1,zaw (gP p) (rP p),.int .i64 (t.one q).r,.int .i64 (t.one q).c,.int .i64 (t.one q).h,.int .i64 (t.one q).w,zaw (gP p) (rP p),.int .i64 (t.two q).r,.int .i64 (t.two q).c,.int .i64 (t.two q).h,.int .i64 (t.two q).w],.bool true]) false:=by have h:=zou hp hw.inn; simp only[zqm,hq]at h; exact h
  obtain ⟨i1,i2,a1,a2⟩:=hw.inn.cut hq
  obtain ⟨w1,w2⟩:=hw.cut (zrj hp) hq
  simp(disch:=omega)only[↓RU,RV,RH,↓reduceIte,qE,reduceCtorEq,if_pos,qN,↓RS,RG,qA,qM,qL,ty6,zau,za5,zer,zap,zaa,za6,zes,zaq]
  refine zac.pc (hF) rfl (.inr rfl) ?_
  simp(disch:=omega)only[↓RU,RV,RH,↓reduceIte,qE,reduceCtorEq,if_pos,qN,↓RS,RG,qA,qM,qL,ty6,zau,za5,zer,zap,zaa,za6,zes,zaq]
  apply hK;clear hK K
  refine W.seq ?_
  refine W.r fun K hK=>?_
  simp(disch:=omega)only[↓RU,RV,RH,↓reduceIte,qE,reduceCtorEq,if_pos,↓RS,RG,qA,qM,qL]
  apply hK;clear hK K
  refine W.cond rfl (fun h2=>?_) (fun h2=>?_)
  ·try simp only[RL]at h2
   exact absurd h2 (by simp)
  try simp only[RL]at h2
  refine W.skip ?_
  refine xn ?_
  refine W.r fun K hK=>?_
  obtain hx1 | ⟨x1,hx1,hx2⟩ | ⟨x1,x2,hx1,hx2⟩:=z4h (zc7 (zah p) (t.one q)) (zc7 (zah p) (t.two q))
  ·skip
   have hI1:=ih (t.one q) w1 a1
   have hI2:=ih (t.two q) w2 a2
   simp only[zqn,hx1]at hI1
   obtain ⟨v2,b2,e2⟩:=zw0 (enc:=(fun x:Txt=>PV.str x)) (zero:=(.str [])) (room:=room) (cut:=cut) (zc7 (zah p) (t.two q))
   rw [e2]at hI2
   simp(disch:=omega)only[↓RU,RV,RH,↓reduceIte,qE,reduceCtorEq,if_pos,qN,↓RS,RG,qA,qM,qL,ty6,zau,za5,zer,zap,zaa,za6,zes,zaq]
   refine zac.pc (hI1) (za0 rfl (za0 (by rw [zdt,hr9]; rfl) (za0 (by rw [zdt,hc9]; rfl) rfl))) (.inl rfl) ?_
   simp(disch:=omega)only[↓RU,RV,RH,↓reduceIte,qE,reduceCtorEq,if_pos,qN,↓RS,RG,qA,qM,qL,ty6,zau,za5,zer,zap,zaa,za6,zes,zaq]
   apply hK;clear hK K
   refine W.r fun K hK=>?_
   simp(disch:=omega)only[↓RU,RV,RH,↓reduceIte,qE,reduceCtorEq,if_pos,qN,↓RS,RG,qA,qM,qL,ty6,zau,za5,zer,zap,zaa,za6,zes,zaq]
   refine zac.pc (hI2) (za0 rfl (za0 (by rw [zdt,hr9]; rfl) (za0 (by rw [zdt,hc9]; rfl) rfl))) (.inl rfl) ?_
   simp(disch:=omega)only[↓RU,RV,RH,↓reduceIte,qE,reduceCtorEq,if_pos,qN,↓RS,RG,qA,qM,qL,ty6,zau,za5,zer,zap,zaa,za6,zes,zaq]
   apply hK;clear hK K
   refine W.seq ?_
   refine W.r fun K hK=>?_
   simp(disch:=omega)only[↓RU,RV,RH,↓reduceIte,qE,reduceCtorEq,if_pos,↓RS,RG,qA,qM,qL]
   apply hK;clear hK K
   refine W.cond rfl (fun h3=>?_) (fun h3=>?_)
   ·try simp only[RL]at h3
    refine W.r fun K hK=>?_
    simp(disch:=omega)only[↓RU,RV,RH,↓reduceIte,qE,reduceCtorEq,if_pos,↓RS,RG,qA,qM,qL]
    apply hK;clear hK K
    refine W.ret ?_
    refine XThen.ret ?_
    refine Br rfl ?_
    rw [zhf hw.inn h1 hq,hx1]
    rfl
   try simp only[RL]at h3
   exact absurd h3 (by simp)
  ·skip
   have hI1:=ih (t.one q) w1 a1
   have hI2:=ih (t.two q) w2 a2
   simp only[zqn,hx1]at hI1
   simp only[zqn,hx2]at hI2
   simp(disch:=omega)only[↓RU,RV,RH,↓reduceIte,qE,reduceCtorEq,if_pos,qN,↓RS,RG,qA,qM,qL,ty6,zau,za5,zer,zap,zaa,za6,zes,zaq]
   refine zac.pc (hI1) (za0 rfl (za0 (by rw [zdt,hr9]; rfl) (za0 (by rw [zdt,hc9]; rfl) rfl))) (.inl rfl) ?_
   simp(disch:=omega)only[↓RU,RV,RH,↓reduceIte,qE,reduceCtorEq,if_pos,qN,↓RS,RG,qA,qM,qL,ty6,zau,za5,zer,zap,zaa,za6,zes,zaq]
   apply hK;clear hK K
   refine W.r fun K hK=>?_
   simp(disch:=omega)only[↓RU,RV,RH,↓reduceIte,qE,reduceCtorEq,if_pos,qN,↓RS,RG,qA,qM,qL,ty6,zau,za5,zer,zap,zaa,za6,zes,zaq]
   refine zac.pc (hI2) (za0 rfl (za0 (by rw [zdt,hr9]; rfl) (za0 (by rw [zdt,hc9]; rfl) rfl))) (.inl rfl) ?_
   simp(disch:=omega)only[↓RU,RV,RH,↓reduceIte,qE,reduceCtorEq,if_pos,qN,↓RS,RG,qA,qM,qL,ty6,zau,za5,zer,zap,zaa,za6,zes,zaq]
   apply hK;clear hK K
   refine W.seq ?_
   refine W.r fun K hK=>?_
   simp(disch:=omega)only[↓RU,RV,RH,↓reduceIte,qE,reduceCtorEq,if_pos,↓RS,RG,qA,qM,qL]
   apply hK;clear hK K
   refine W.cond rfl (fun h3=>?_) (fun h3=>?_)
   ·try simp only[RL]at h3
    refine W.r fun K hK=>?_
    simp(disch:=omega)only[↓RU,RV,RH,↓reduceIte,qE,reduceCtorEq,if_pos,↓RS,RG,qA,qM,qL]
    apply hK;clear hK K
    refine W.ret ?_
    refine XThen.ret ?_
    refine Br rfl ?_
    rw [zhf hw.inn h1 hq,hx1,hx2]
    rfl
   try simp only[RL]at h3
   exact absurd h3 (by simp)
  skip
  have hI1:=ih (t.one q) w1 a1
  have hI2:=ih (t.two q) w2 a2
  simp only[zqn,hx1]at hI1
  simp only[zqn,hx2]at hI2
  simp(disch:=omega)only[↓RU,RV,RH,↓reduceIte,qE,reduceCtorEq,if_pos,qN,↓RS,RG,qA,qM,qL,ty6,zau,za5,zer,zap,zaa,za6,zes,zaq]
  refine zac.pc (hI1) (za0 rfl (za0 (by rw [zdt,hr9]; rfl) (za0 (by rw [zdt,hc9]; rfl) rfl))) (.inl rfl) ?_
  simp(disch:=omega)only[↓RU,RV,RH,↓reduceIte,qE,reduceCtorEq,if_pos,qN,↓RS,RG,qA,qM,qL,ty6,zau,za5,zer,zap,zaa,za6,zes,zaq]
  apply hK;clear hK K
  refine W.r fun K hK=>?_
  simp(disch:=omega)only[↓RU,RV,RH,↓reduceIte,qE,reduceCtorEq,if_pos,qN,↓RS,RG,qA,qM,qL,ty6,zau,za5,zer,zap,zaa,za6,zes,zaq]
  refine zac.pc (hI2) (za0 rfl (za0 (by rw [zdt,hr9]; rfl) (za0 (by rw [zdt,hc9]; rfl) rfl))) (.inl rfl) ?_
  simp(disch:=omega)only[↓RU,RV,RH,↓reduceIte,qE,reduceCtorEq,if_pos,qN,↓RS,RG,qA,qM,qL,ty6,zau,za5,zer,zap,zaa,za6,zes,zaq]
  apply hK;clear hK K
  refine W.seq ?_
  refine W.r fun K hK=>?_
  simp(disch:=omega)only[↓RU,RV,RH,↓reduceIte,qE,reduceCtorEq,if_pos,↓RS,RG,qA,qM,qL]
  apply hK;clear hK K
  refine W.cond rfl (fun h3=>?_) (fun h3=>?_)
  ·try simp only[RL]at h3
   exact absurd h3 (by simp)
  try simp only[RL]at h3
  refine W.skip ?_
  refine xn ?_
  refine W.r fun K hK=>?_
  simp(disch:=omega)only[↓RU,RV,RH,↓reduceIte,qE,reduceCtorEq,if_pos,qN,↓RS,RG,qA,qM,qL,ty6,zau,za5,zer,zap,zaa,za6,zes,zaq]
  refine zac.pc (hcut t q x1 x2 hw hq hx1 hx2) (za0 rfl (za0 rfl (za0 rfl (hc10 _)))) (.inl rfl) ?_
  simp(disch:=omega)only[↓RU,RV,RH,↓reduceIte,qE,reduceCtorEq,if_pos,qN,↓RS,RG,qA,qM,qL,ty6,zau,za5,zer,zap,zaa,za6,zes,zaq]
  apply hK;clear hK K
  refine W.ret ?_
  refine Br rfl ?_
  rw [zhf hw.inn h1 hq,hx1,hx2]
  rfl
 skip
 have hL:PC Tryz.prog 29 [zd0 (gP p) (rP p) t.rect] (.sl [.int .i64 (zah p t.r t.c)] 1) true:=by have h:=zu9 (gP p) (by omega) hfit (zpn hp hw.inn); rw [z7j hp hw h1]at h; exact h
 have hv:=zje hp (i:=t.r) (j:=t.c) (by omega) (by omega)
 simp(disch:=omega)only[↓RU,RV,RH,↓reduceIte,qE,reduceCtorEq,if_pos,qN,↓RS,RG,qA,qM,qL,ty6,za5,zap,zaa,za6,zaq]
 refine zac.pc (hL) rfl (.inl rfl) ?_
 simp(disch:=omega)only[↓RU,RV,RH,↓reduceIte,qE,reduceCtorEq,if_pos,qN,↓RS,RG,qA,qM,qL,ty6,za5,zap,zaa,za6,zaq]
 apply hK;clear hK K
 refine W.r fun K hK=>?_
 simp(disch:=omega)only[↓RU,RV,RH,↓reduceIte,qE,reduceCtorEq,if_pos,w64,↓RS,RG,qA,qM,qL,zae,zaa]
 apply hK;clear hK K
 refine W.cond rfl (fun h0=>?_) (fun h0=>?_)
 ·try simp only[RL]at h0
  refine W.r fun K hK=>?_
  simp(disch:=omega)only[↓RU,RV,RH,↓reduceIte,qE,reduceCtorEq,if_pos,qN,↓RS,RG,qA,qM,qL,zae,zaa,Int.toNat_zero,Nat.zero_mul,qZ,List.getElem?_cons_zero]
  refine zac.pc (hroom _ hv.1 hv.2) (za0 rfl (hr10 _)) (.inl rfl) ?_
  simp(disch:=omega)only[↓RU,RV,RH,↓reduceIte,qE,reduceCtorEq,if_pos,qN,↓RS,RG,qA,qM,qL,zae,zaa,Int.toNat_zero,Nat.zero_mul,qZ,List.getElem?_cons_zero]
  apply hK;clear hK K
  refine W.ret ?_
  refine XThen.ret ?_
  refine Br rfl ?_
  rw [zj1 hw.inn h1]
  rfl
 try simp only[RL]at h0
 exact absurd h0 (by simp)
theorem zn0 {p:List Txt} (hp:zaz p=true) {rf cf:FuncId} {rc cc:List PV} (hr9:∀ S,rc.mapM (reify S true 9)=some rc) (hr10:∀ S,rc.mapM (reify S true 10)=some rc) (hc9:∀ S,cc.mapM (reify S true 9)=some cc) (hc10:∀ S,cc.mapM (reify S true 10)=some cc)
  {room:Int→Txt} {cut:Bool→Txt→Txt→Txt} (hroom:∀ a:Int,0≤a→a<(rP p).length→PC Tryz.prog rf (.int .i64 a::rc) ((fun x:Txt=>PV.str x) (room a)) true)
  (hcut:∀ (t:Pt) q x y,Whole (zah p) p.length (zal p).length t→zcv (zah p) t=some q→zc7 (zah p) (t.one q)=some x→zc7 (zah p) (t.two q)=some y→PC Tryz.prog cf (z1d (gP p) (rP p) t q::(fun x:Txt=>PV.str x) (x.fold room cut)::(fun x:Txt=>PV.str x) (y.fold room cut)::cc) ((fun x:Txt=>PV.str x) (cut q.1 (x.fold room cut) (y.fold room cut))) true):∀ (n:Nat) {t:Pt},t.h*t.w≤n→Whole (zah p) p.length (zal p).length t→PC Tryz.prog 39 [zd0 (gP p) (rP p) t.rect,.fn rf rc,.fn cf cc] (zqn (fun x:Txt=>PV.str x) (.str []) room cut (zc7 (zah p) t)) true
 | 0,t,hn,hw=>by have:=Nat.mul_pos hw.inn.1 hw.inn.2.1; omega
 | n+1,t,hn,hw=>zw1 hp hr9 hr10 hc9 hc10 hroom hcut hw fun t' hw' ha=>zn0 hp hr9 hr10 hc9 hc10 hroom hcut n (by omega) hw'
theorem yaf {a:Int} (h0:0≤a) (h1:a<9):PC Tryz.prog 38 [.int .i64 a] (.str (yax a)) true:=by
 refine PC.of ⟨Tryz.func38,by kernel_rfl,rfl,by kernel_rfl⟩ zao mixed (by show 1≤Tryz.f38.ntmps; decide) ?_
 refine W.r fun K hK=>?_
 simp(disch:=omega)only[↓RU,RV,RH,↓reduceIte,qE,reduceCtorEq,if_pos,w32r]
 apply hK;clear hK K
 refine W.r fun K hK=>?_
 simp(disch:=omega)only[↓RU,RV,RH,↓reduceIte,qE,reduceCtorEq,if_pos,w64,w64,zaa,ydk,zab,w32r]
 apply hK;clear hK K
 refine W.ret ?_
 refine Br rfl ?_
 rfl
theorem z6b (g:List (List Int)) (rs:List Rect) (lv:Bool) (a b:Rect):PC Tryz.prog 41 [.agg (zrg g rs lv a b)] (.str (if lv then [104] else [118])) true:=by
 simp only[zrg,Rect.cells]
 refine PC.of ⟨Tryz.func41,by kernel_rfl,rfl,by kernel_rfl⟩ zao mixed (by show 1≤Tryz.f41.ntmps; decide) ?_
 refine W.r fun K hK=>?_
 simp(disch:=omega)only[↓RU,RV,RH,↓reduceIte,qE,reduceCtorEq,if_pos,↓RS,RG,qA,qM,qL,ty6,zau,za5,zer,zap,zaa,za6,zes,zaq]
 apply hK;clear hK K
 refine W.seq ?_
 refine W.r fun K hK=>?_
 simp(disch:=omega)only[↓RU,RV,RH,↓reduceIte,qE,reduceCtorEq,if_pos,↓RS,RG,qA,qM,qL,ty6,zau,za5,zer,zap,zaa,za6,zes,zaq]
 apply hK;clear hK K
 refine W.cond rfl (fun h0=>?_) (fun h0=>?_)
 ·try simp only[RL]at h0
  refine W.r fun K hK=>?_
  simp(disch:=omega)only[↓RU,RV,RH,↓reduceIte,qE,reduceCtorEq,if_pos,↓RS,RG,qA,qM,qL]
  apply hK;clear hK K
  refine W.ret ?_
  refine XThen.ret ?_
  refine Br rfl ?_
  subst h0
  rfl
 try simp only[RL]at h0
 refine W.skip ?_
 refine xn ?_
 refine W.r fun K hK=>?_
 simp(disch:=omega)only[↓RU,RV,RH,↓reduceIte,qE,reduceCtorEq,if_pos,↓RS,RG,qA,qM,qL]
 apply hK;clear hK K
 refine W.ret ?_
 refine Br rfl ?_
 subst h0
 rfl
theorem z2w {lv:Bool} {b:List UInt8} (h:b.length+1≤9223372036854775807):zn9 .add (if lv then [104] else [118]) b=some (.str ((if lv then [104] else [118])++b)):=if_pos (by rw [z6d]; omega)
theorem z2x {lv:Bool} {b d:List UInt8} (h:b.length+1+d.length≤9223372036854775807):zn9 .add ((if lv then [104] else [118])++b) d=some (.str ((if lv then [104] else [118])++b++d)):=if_pos (by rw [List.length_append,z6d]; omega)
theorem yag (g:List (List Int)) (rs:List Rect) (lv:Bool) (a b:Rect) {x y:Txt} (hx:x.length≤10000) (hy:y.length≤10000):PC Tryz.prog 40 [.agg (zrg g rs lv a b),.str x,.str y] (.str (yay lv x y)) true:=by
 have hL:=z6b g rs lv a b
 simp only[zrg,Rect.cells]at hL ⊢
 skip
 refine PC.of ⟨Tryz.func40,by kernel_rfl,rfl,by kernel_rfl⟩ zao mixed (by show 3≤Tryz.f40.ntmps; decide) ?_
 refine W.r fun K hK=>?_
 simp(disch:=omega)only[↓RU,RV,RH,↓reduceIte,qE,reduceCtorEq,if_pos,↓RS,RG,qA,qM,qL,ty6,zau,za5,zer,zap,zaa,za6,zes,zaq]
 apply hK;clear hK K
 refine W.r fun K hK=>?_
 simp(disch:=omega)only[↓RU,RV,RH,↓reduceIte,qE,reduceCtorEq,if_pos,qN,w64,↓RS,RG,qA,qM,qL,ty6,zau,za5,zer,zap,zaa,zab,za6,zes,zaq,z2w,z2x]
 refine zac.pc (hL) rfl (.inl rfl) ?_
 simp(disch:=omega)only[↓RU,RV,RH,↓reduceIte,qE,reduceCtorEq,if_pos,qN,w64,↓RS,RG,qA,qM,qL,ty6,zau,za5,zer,zap,zaa,zab,za6,zes,zaq,z2w,z2x]
 apply hK;clear hK K
 refine W.ret ?_
 refine Br rfl ?_
 rfl
theorem zzh {p:List Txt} (hp:zaz p=true):PC Tryz.prog 18 [zd0 (gP p) (rP p) (zej p).rect] (zqn (fun x:Txt=>PV.str x) (.str []) yax yay (zc7 (zah p) (zej p))) true:=by
 have hT:PC Tryz.prog 39 [zd0 (gP p) (rP p) (zej p).rect,.fn 38 [],.fn 40 []] (zqn (fun x:Txt=>PV.str x) (.str []) yax yay (zc7 (zah p) (zej p))) true:=by
  refine zn0 hp (rf:=38) (cf:=40) (rc:=[]) (cc:=[]) (fun _=>rfl) (fun _=>rfl) (fun _=>rfl) (fun _=>rfl) (fun a h1 h2=>yaf h1 (by have:=(zcw hp).1; omega)) (fun t q x y hw hq hx hy=>?_) _ (qR _) (zms hp)
  obtain ⟨w1,w2⟩:=hw.cut (zrj hp) hq
  have b1:=zll hp w1 hx
  have b2:=zll hp w2 hy
  have n9:=(zcw hp).1
  have c1:=z03 (x:=x) fun a ha=>by have:=b1.1 a ha; omega
  have c2:=z03 (x:=y) fun a ha=>by have:=b2.1 a ha; omega
  exact yag (gP p) (rP p) q.1 (t.one q).rect (t.two q).rect (by omega) (by omega)
 obtain ⟨v2,b2,e2⟩:=zw0 (enc:=fun x:Txt=>PV.str x) (zero := .str []) (room:=yax) (cut:=yay) (zc7 (zah p) (zej p))
 have hs:∃ s:Txt,v2 = .str s:=by cases h:(zc7 (zah p) (zej p)) <;> rw [h]at e2 <;> cases e2 <;> exact ⟨_,rfl⟩
 obtain ⟨s,rfl⟩:=hs
 rw [e2]at hT ⊢
 simp only[zd0,Pt.rect,Rect.cells]at hT ⊢
 refine PC.of ⟨Tryz.func18,by kernel_rfl,rfl,by kernel_rfl⟩ zao mixed (by show 1≤Tryz.f18.ntmps; decide) ?_
 refine W.r fun K hK=>?_
 simp(disch:=omega)only[↓RU,RV,RH,↓reduceIte,qE,reduceCtorEq,if_pos,↓RS,RG,qA,qM,qL,ty6,za5,zap,zaa,za6,zaq]
 apply hK;clear hK K
 refine W.r fun K hK=>?_
 simp(disch:=omega)only[↓RU,RV,RH,↓reduceIte,qE,reduceCtorEq,if_pos,↓RS,RG,qA,qM,qL]
 apply hK;clear hK K
 refine W.r fun K hK=>?_
 simp(disch:=omega)only[↓RU,RV,RH,↓reduceIte,qE,reduceCtorEq,if_pos,qN,↓RS,RG,qA,qM,qL,ty6,za5,zap,zaa,za6,zaq]
 refine zac.pc (hT) rfl (.inl rfl) ?_
 simp(disch:=omega)only[↓RU,RV,RH,↓reduceIte,qE,reduceCtorEq,if_pos,qN,↓RS,RG,qA,qM,qL,ty6,za5,zap,zaa,za6,zaq]
 apply hK;clear hK K
 refine W.ret ?_
 refine Br rfl ?_
 rfl
theorem zr2 {p:List Txt} (hp:zaz p=true):PC Tryz.prog 17 [zaw (gP p) (rP p)] (zd0 (gP p) (rP p) (zej p).rect) false:=by
 have hg:=zzz hp
 obtain ⟨row,h1,h2,-⟩:=hg.at_ (i:=0) (j:=0) (by have:=hg.2.2; omega) (by have:=hg.2.2; omega)
 have h:=yan h1 (rP p)
 rw [hg.1,h2]at h
 exact h
theorem zgt (f:FuncId):PC Tryz.prog 57 [.fn f []] (.fn 153 [.ip [.fn f []] 0]) false:=by
 refine PC.of ⟨Tryz.func57,by kernel_rfl,rfl,by kernel_rfl⟩ zao mixed (by show 1≤Tryz.f57.ntmps; decide) ?_
 refine W.r fun K hK=>?_
 simp(disch:=omega)only[↓RU,RV,RH,↓reduceIte,qE,reduceCtorEq,if_pos,↓RS,RG,qA,qM,qL,yfa,zcd,zim,zbq,zbn]
 apply hK;clear hK K
 refine W.r fun K hK=>?_
 simp(disch:=omega)only[↓RU,RV,RH,↓reduceIte,qE,reduceCtorEq,if_pos,↓RS,RG,qA,qM,qL,zcd,zim,zbq,zbn]
 apply hK;clear hK K
 refine W.ret ?_
 refine Br rfl ?_
 rfl
theorem zs1 {f:FuncId} {X0:Ob} {v0 t:Nat}:Ev Tryz.prog 57 [.fn f [.ref 0 v0 0]] ⟨[X0],t⟩ fun v S=>v = .fn 153 [.ref 1 t 0]∧S=⟨[X0,.arr t 98 1 [.fn f [.ref 0 v0 0]]],t+1⟩:=by
 refine Ev.of ⟨Tryz.func57,by kernel_rfl,rfl,by kernel_rfl⟩ zao mixed (by show 1≤Tryz.f57.ntmps; decide) ?_
 refine W.r fun K hK=>?_
 simp(disch:=omega)only[↓RU,RV,RH,↓reduceIte,qE,reduceCtorEq,if_pos,↓RS,RG,qA,qM,qL,yfa,zcd,zim]
 apply hK;clear hK K
 refine W.r fun K hK=>?_
 simp(disch:=omega)only[↓RU,RV,RH,↓reduceIte,qE,reduceCtorEq,if_pos,↓RS,RG,qA,qM,qL,zcd,zim]
 apply hK;clear hK K
 refine W.ret ?_
 refine Br rfl ?_
 exact ⟨2,rfl,rfl⟩
theorem zj4 (f:FuncId):PC Tryz.prog 51 [.fn f []] (.fn 153 [.ip [.fn 140 [.ip [.fn f []] 0]] 0]) false:=by
 refine PC.of ⟨Tryz.func51,by kernel_rfl,rfl,by kernel_rfl⟩ zao mixed (by show 1≤Tryz.f51.ntmps; decide) ?_
 refine W.r fun K hK=>?_
 simp(disch:=omega)only[↓RU,RV,RH,↓reduceIte,qE,reduceCtorEq,if_pos,↓RS,RG,qA,qM,qL,ty11,zcd,zim,zbq,zbn]
 apply hK;clear hK K
 refine W.r fun K hK=>?_
 simp(disch:=omega)only[↓RU,RV,RH,↓reduceIte,qE,reduceCtorEq,if_pos,qN,↓RS,RG,qA,qM,qL,zcd,zim,zbq,zbn]
 refine zac.ev (zs1) ?_
 rintro _ _ ⟨rfl,rfl⟩
 simp(disch:=omega)only[↓RU,RV,RH,↓reduceIte,qE,reduceCtorEq,if_pos,qN,↓RS,RG,qA,qM,qL,zcd,zim,zbq,zbn]
 apply hK;clear hK K
 refine W.ret ?_
 refine Br rfl ?_
 rfl
theorem zx3 (s:Txt):PC Tryz.prog 92 [.str s] (.fn 153 [.ip [.fn 187 [.ip [.str s] 0]] 0]) false:=by
 refine PC.of ⟨Tryz.func92,by kernel_rfl,rfl,by kernel_rfl⟩ zao mixed (by show 1≤Tryz.f92.ntmps; decide) ?_
 refine W.r fun K hK=>?_
 simp(disch:=omega)only[↓RU,RV,RH,↓reduceIte,qE,reduceCtorEq,if_pos,↓RS,RG,qA,qM,qL,zab,zcd,zim,zbq,zbn]
 apply hK;clear hK K
 refine W.r fun K hK=>?_
 simp(disch:=omega)only[↓RU,RV,RH,↓reduceIte,qE,reduceCtorEq,if_pos,qN,↓RS,RG,qA,qM,qL,zcd,zim,zbq,zbn]
 refine zac.ev (zs1) ?_
 rintro _ _ ⟨rfl,rfl⟩
 simp(disch:=omega)only[↓RU,RV,RH,↓reduceIte,qE,reduceCtorEq,if_pos,qN,↓RS,RG,qA,qM,qL,zcd,zim,zbq,zbn]
 apply hK;clear hK K
 refine W.ret ?_
 refine Br rfl ?_
 rfl
theorem zyt (f:FuncId):PC Tryz.prog 123 [.fn f []] (.fn 219 [.ip [.fn f []] 0]) false:=by
 refine PC.of ⟨Tryz.func123,by kernel_rfl,rfl,by kernel_rfl⟩ zao mixed (by show 1≤Tryz.f123.ntmps; decide) ?_
 refine W.r fun K hK=>?_
 simp(disch:=omega)only[↓RU,RV,RH,↓reduceIte,qE,reduceCtorEq,if_pos,↓RS,RG,qA,qM,qL,ty18,zcd,zim,zbq,zbn]
 apply hK;clear hK K
 refine W.r fun K hK=>?_
 simp(disch:=omega)only[↓RU,RV,RH,↓reduceIte,qE,reduceCtorEq,if_pos,↓RS,RG,qA,qM,qL,zcd,zim,zbq,zbn]
 apply hK;clear hK K
 refine W.ret ?_
 refine Br rfl ?_
 rfl
theorem zjp (f g:FuncId):PC Tryz.prog 64 [.fn f [],.fn g []] (.fn 160 [.ip [.fn f []] 0,.ip [.fn g []] 0]) false:=by
 refine PC.of ⟨Tryz.func64,by kernel_rfl,rfl,by kernel_rfl⟩ zao mixed (by show 2≤Tryz.f64.ntmps; decide) ?_
 refine W.r fun K hK=>?_
 simp(disch:=omega)only[↓RU,RV,RH,↓reduceIte,qE,reduceCtorEq,if_pos,↓RS,RG,qA,qM,qL,ty12,ty16,zcd,zim,zbq,zbn]
 apply hK;clear hK K
 refine W.r fun K hK=>?_
 simp(disch:=omega)only[↓RU,RV,RH,↓reduceIte,qE,reduceCtorEq,if_pos,↓RS,RG,qA,qM,qL,zcd,zim,zbq,zbn]
 apply hK;clear hK K
 refine W.ret ?_
 refine Br rfl ?_
 rfl
theorem zna (f g:FuncId):PC Tryz.prog 66 [.fn f [],.fn g []] (.fn 161 [.ip [.fn f []] 0,.ip [.fn g []] 0]) false:=by
 refine PC.of ⟨Tryz.func66,by kernel_rfl,rfl,by kernel_rfl⟩ zao mixed (by show 2≤Tryz.f66.ntmps; decide) ?_
 refine W.r fun K hK=>?_
 simp(disch:=omega)only[↓RU,RV,RH,↓reduceIte,qE,reduceCtorEq,if_pos,↓RS,RG,qA,qM,qL,ty8,ty9,zcd,zim,zbq,zbn]
 apply hK;clear hK K
 refine W.r fun K hK=>?_
 simp(disch:=omega)only[↓RU,RV,RH,↓reduceIte,qE,reduceCtorEq,if_pos,↓RS,RG,qA,qM,qL,zcd,zim,zbq,zbn]
 apply hK;clear hK K
 refine W.ret ?_
 refine Br rfl ?_
 rfl
theorem zzv (f g:FuncId):PC Tryz.prog 75 [.fn f [],.fn g []] (.fn 166 [.ip [.fn f []] 0,.ip [.fn g []] 0]) false:=by
 refine PC.of ⟨Tryz.func75,by kernel_rfl,rfl,by kernel_rfl⟩ zao mixed (by show 2≤Tryz.f75.ntmps; decide) ?_
 refine W.r fun K hK=>?_
 simp(disch:=omega)only[↓RU,RV,RH,↓reduceIte,qE,reduceCtorEq,if_pos,↓RS,RG,qA,qM,qL,yf5,yf6,zcd,zim,zbq,zbn]
 apply hK;clear hK K
 refine W.r fun K hK=>?_
 simp(disch:=omega)only[↓RU,RV,RH,↓reduceIte,qE,reduceCtorEq,if_pos,↓RS,RG,qA,qM,qL,zcd,zim,zbq,zbn]
 apply hK;clear hK K
 refine W.ret ?_
 refine Br rfl ?_
 rfl
theorem zfq (k:Int) (f:FuncId):PC Tryz.prog 98 [.int .i64 k,.fn f []] (.fn 196 [.ip [.int .i64 k] 0,.ip [.fn f []] 0]) false:=by
 refine PC.of ⟨Tryz.func98,by kernel_rfl,rfl,by kernel_rfl⟩ zao mixed (by show 2≤Tryz.f98.ntmps; decide) ?_
 refine W.r fun K hK=>?_
 simp(disch:=omega)only[↓RU,RV,RH,↓reduceIte,qE,reduceCtorEq,if_pos,↓RS,RG,qA,qM,qL,ty10,zaa,zcd,zim,zbq,zbn]
 apply hK;clear hK K
 refine W.r fun K hK=>?_
 simp(disch:=omega)only[↓RU,RV,RH,↓reduceIte,qE,reduceCtorEq,if_pos,↓RS,RG,qA,qM,qL,zcd,zim,zbq,zbn]
 apply hK;clear hK K
 refine W.ret ?_
 refine Br rfl ?_
 rfl
theorem zg5 {s:Txt}:TK.keyed tab 9 (.str s)=true:=rfl
def yf1:List (PV × PV):=[]
def tabA1:List (PV × PV):=yf1++[(.str [116,117,114,110],.fn 153 [.ip [.fn 140 [.ip [.fn 52 []] 0]] 0])]
theorem zov:findKey (.str [116,117,114,110]) [] 0=some none:=rfl
theorem zo6:[((.str [116,117,114,110]:PV),(.fn 153 [.ip [.fn 140 [.ip [.fn 52 []] 0]] 0]:PV))]=tabA1:=rfl
def tabA2:List (PV × PV):=tabA1++[(.str [102,108,105,112],.fn 153 [.ip [.fn 140 [.ip [.fn 53 []] 0]] 0])]
theorem zow:findKey (.str [102,108,105,112]) tabA1 0=some none:=rfl
theorem zo7:tabA1++[((.str [102,108,105,112]:PV),(.fn 153 [.ip [.fn 140 [.ip [.fn 53 []] 0]] 0]:PV))]=tabA2:=rfl
def tabA3:List (PV × PV):=tabA2++[(.str [116,114,97,110,115],.fn 153 [.ip [.fn 140 [.ip [.fn 54 []] 0]] 0])]
theorem zox:findKey (.str [116,114,97,110,115]) tabA2 0=some none:=rfl
theorem zo8:tabA2++[((.str [116,114,97,110,115]:PV),(.fn 153 [.ip [.fn 140 [.ip [.fn 54 []] 0]] 0]:PV))]=tabA3:=rfl
def tabA4:List (PV × PV):=tabA3++[(.str [116,105,103,104,116],.fn 153 [.ip [.fn 140 [.ip [.fn 55 []] 0]] 0])]
theorem zoy:findKey (.str [116,105,103,104,116]) tabA3 0=some none:=rfl
theorem zo9:tabA3++[((.str [116,105,103,104,116]:PV),(.fn 153 [.ip [.fn 140 [.ip [.fn 55 []] 0]] 0]:PV))]=tabA4:=rfl
def tabA5:List (PV × PV):=tabA4++[(.str [97,115,105,100,101],.fn 56 [])]
theorem zoz:findKey (.str [97,115,105,100,101]) tabA4 0=some none:=rfl
theorem zpa:tabA4++[((.str [97,115,105,100,101]:PV),(.fn 56 []:PV))]=tabA5:=rfl
def tabA6:List (PV × PV):=tabA5++[(.str [98,101,115,105,100,101],.fn 153 [.ip [.fn 58 []] 0])]
theorem zo0:findKey (.str [98,101,115,105,100,101]) tabA5 0=some none:=rfl
theorem zpb:tabA5++[((.str [98,101,115,105,100,101]:PV),(.fn 153 [.ip [.fn 58 []] 0]:PV))]=tabA6:=rfl
def tabA7:List (PV × PV):=tabA6++[(.str [117,110,100,101,114],.fn 153 [.ip [.fn 60 []] 0])]
theorem zo1:findKey (.str [117,110,100,101,114]) tabA6 0=some none:=rfl
theorem zpc:tabA6++[((.str [117,110,100,101,114]:PV),(.fn 153 [.ip [.fn 60 []] 0]:PV))]=tabA7:=rfl
def tabA8:List (PV × PV):=tabA7++[(.str [115,104,111,119],.fn 62 [])]
theorem zo2:findKey (.str [115,104,111,119]) tabA7 0=some none:=rfl
theorem zpd:tabA7++[((.str [115,104,111,119]:PV),(.fn 62 []:PV))]=tabA8:=rfl
def tabA9:List (PV × PV):=tabA8++[(.str [114,111,111,109,115],.fn 160 [.ip [.fn 8 []] 0,.ip [.fn 65 []] 0])]
theorem zo3:findKey (.str [114,111,111,109,115]) tabA8 0=some none:=rfl
theorem zpe:tabA8++[((.str [114,111,111,109,115]:PV),(.fn 160 [.ip [.fn 8 []] 0,.ip [.fn 65 []] 0]:PV))]=tabA9:=rfl
def tabA10:List (PV × PV):=tabA9++[(.str [97,114,101,97,115],.fn 161 [.ip [.fn 67 []] 0,.ip [.fn 68 []] 0])]
theorem zo4:findKey (.str [97,114,101,97,115]) tabA9 0=some none:=rfl
theorem zpf:tabA9++[((.str [97,114,101,97,115]:PV),(.fn 161 [.ip [.fn 67 []] 0,.ip [.fn 68 []] 0]:PV))]=tabA10:=rfl
def tabA11:List (PV × PV):=tabA10++[(.str [119,97,108,108,115],.fn 69 [])]
theorem zft:findKey (.str [119,97,108,108,115]) tabA10 0=some none:=rfl
theorem zf9:tabA10++[((.str [119,97,108,108,115]:PV),(.fn 69 []:PV))]=tabA11:=rfl
def tabA12:List (PV × PV):=tabA11++[(.str [99,114,111,115,115],.fn 160 [.ip [.fn 72 []] 0,.ip [.fn 65 []] 0])]
theorem zfu:findKey (.str [99,114,111,115,115]) tabA11 0=some none:=rfl
theorem zga:tabA11++[((.str [99,114,111,115,115]:PV),(.fn 160 [.ip [.fn 72 []] 0,.ip [.fn 65 []] 0]:PV))]=tabA12:=rfl
def tabA13:List (PV × PV):=tabA12++[(.str [116,101,101,115],.fn 160 [.ip [.fn 73 []] 0,.ip [.fn 65 []] 0])]
theorem zfv:findKey (.str [116,101,101,115]) tabA12 0=some none:=rfl
theorem zgb:tabA12++[((.str [116,101,101,115]:PV),(.fn 160 [.ip [.fn 73 []] 0,.ip [.fn 65 []] 0]:PV))]=tabA13:=rfl
def tabA14:List (PV × PV):=tabA13++[(.str [101,110,100,115],.fn 160 [.ip [.fn 74 []] 0,.ip [.fn 65 []] 0])]
theorem zfw:findKey (.str [101,110,100,115]) tabA13 0=some none:=rfl
theorem zgc:tabA13++[((.str [101,110,100,115]:PV),(.fn 160 [.ip [.fn 74 []] 0,.ip [.fn 65 []] 0]:PV))]=tabA14:=rfl
def tabA15:List (PV × PV):=tabA14++[(.str [99,117,116],.fn 166 [.ip [.fn 6 []] 0,.ip [.fn 76 []] 0])]
theorem zfx:findKey (.str [99,117,116]) tabA14 0=some none:=rfl
theorem zgd:tabA14++[((.str [99,117,116]:PV),(.fn 166 [.ip [.fn 6 []] 0,.ip [.fn 76 []] 0]:PV))]=tabA15:=rfl
def tabA16:List (PV × PV):=tabA15++[(.str [100,101,101,112],.fn 160 [.ip [.fn 77 []] 0,.ip [.fn 65 []] 0])]
theorem zfy:findKey (.str [100,101,101,112]) tabA15 0=some none:=rfl
theorem zge:tabA15++[((.str [100,101,101,112]:PV),(.fn 160 [.ip [.fn 77 []] 0,.ip [.fn 65 []] 0]:PV))]=tabA16:=rfl
def tabA17:List (PV × PV):=tabA16++[(.str [119,97,121,115],.fn 160 [.ip [.fn 78 []] 0,.ip [.fn 65 []] 0])]
theorem zfz:findKey (.str [119,97,121,115]) tabA16 0=some none:=rfl
theorem zgf:tabA16++[((.str [119,97,121,115]:PV),(.fn 160 [.ip [.fn 78 []] 0,.ip [.fn 65 []] 0]:PV))]=tabA17:=rfl
def tabA18:List (PV × PV):=tabA17++[(.str [115,116,117,99,107],.fn 161 [.ip [.fn 79 []] 0,.ip [.fn 68 []] 0])]
theorem zf0:findKey (.str [115,116,117,99,107]) tabA17 0=some none:=rfl
theorem zgg:tabA17++[((.str [115,116,117,99,107]:PV),(.fn 161 [.ip [.fn 79 []] 0,.ip [.fn 68 []] 0]:PV))]=tabA18:=rfl
def tabA19:List (PV × PV):=tabA18++[(.str [112,97,105,114,115],.fn 160 [.ip [.fn 80 []] 0,.ip [.fn 65 []] 0])]
theorem zf1:findKey (.str [112,97,105,114,115]) tabA18 0=some none:=rfl
theorem zgh:tabA18++[((.str [112,97,105,114,115]:PV),(.fn 160 [.ip [.fn 80 []] 0,.ip [.fn 65 []] 0]:PV))]=tabA19:=rfl
def tabA20:List (PV × PV):=tabA19++[(.str [102,97,114],.fn 160 [.ip [.fn 81 []] 0,.ip [.fn 65 []] 0])]
theorem zf2:findKey (.str [102,97,114]) tabA19 0=some none:=rfl
theorem zgi:tabA19++[((.str [102,97,114]:PV),(.fn 160 [.ip [.fn 81 []] 0,.ip [.fn 65 []] 0]:PV))]=tabA20:=rfl
def tabA21:List (PV × PV):=tabA20++[(.str [99,111,108,111,117,114,115],.fn 161 [.ip [.fn 82 []] 0,.ip [.fn 68 []] 0])]
theorem zf3:findKey (.str [99,111,108,111,117,114,115]) tabA20 0=some none:=rfl
theorem zgj:tabA20++[((.str [99,111,108,111,117,114,115]:PV),(.fn 161 [.ip [.fn 82 []] 0,.ip [.fn 68 []] 0]:PV))]=tabA21:=rfl
def tabA22:List (PV × PV):=tabA21++[(.str [102,105,114,115,116],.fn 161 [.ip [.fn 83 []] 0,.ip [.fn 68 []] 0])]
theorem zf4:findKey (.str [102,105,114,115,116]) tabA21 0=some none:=rfl
theorem zgk:tabA21++[((.str [102,105,114,115,116]:PV),(.fn 161 [.ip [.fn 83 []] 0,.ip [.fn 68 []] 0]:PV))]=tabA22:=rfl
def tabA23:List (PV × PV):=tabA22++[(.str [115,101,99,111,110,100],.fn 161 [.ip [.fn 84 []] 0,.ip [.fn 68 []] 0])]
theorem zf5:findKey (.str [115,101,99,111,110,100]) tabA22 0=some none:=rfl
theorem zgl:tabA22++[((.str [115,101,99,111,110,100]:PV),(.fn 161 [.ip [.fn 84 []] 0,.ip [.fn 68 []] 0]:PV))]=tabA23:=rfl
def tabA24:List (PV × PV):=tabA23++[(.str [112,101,114,109],.fn 161 [.ip [.fn 85 []] 0,.ip [.fn 68 []] 0])]
theorem zf6:findKey (.str [112,101,114,109]) tabA23 0=some none:=rfl
theorem zgm:tabA23++[((.str [112,101,114,109]:PV),(.fn 161 [.ip [.fn 85 []] 0,.ip [.fn 68 []] 0]:PV))]=tabA24:=rfl
def tabA25:List (PV × PV):=tabA24++[(.str [97,115],.fn 166 [.ip [.fn 86 []] 0,.ip [.fn 76 []] 0])]
theorem zf7:findKey (.str [97,115]) tabA24 0=some none:=rfl
theorem zgn:tabA24++[((.str [97,115]:PV),(.fn 166 [.ip [.fn 86 []] 0,.ip [.fn 76 []] 0]:PV))]=tabA25:=rfl
def tabA26:List (PV × PV):=tabA25++[(.str [112,114,111,111,102],.fn 166 [.ip [.fn 13 []] 0,.ip [.fn 76 []] 0])]
theorem zf8:findKey (.str [112,114,111,111,102]) tabA25 0=some none:=rfl
theorem zgo:tabA25++[((.str [112,114,111,111,102]:PV),(.fn 166 [.ip [.fn 13 []] 0,.ip [.fn 76 []] 0]:PV))]=tabA26:=rfl
def yf2:List (PV × PV):=[]
def tabT1:List (PV × PV):=yf2++[(.str [112,108,97,110],.fn 153 [.ip [.fn 87 []] 0])]
theorem zsb:findKey (.str [112,108,97,110]) [] 0=some none:=rfl
theorem zsl:[((.str [112,108,97,110]:PV),(.fn 153 [.ip [.fn 87 []] 0]:PV))]=tabT1:=rfl
def tabT2:List (PV × PV):=tabT1++[(.str [116,101,114,109],.fn 153 [.ip [.fn 90 []] 0])]
theorem zsc:findKey (.str [116,101,114,109]) tabT1 0=some none:=rfl
theorem zsm:tabT1++[((.str [116,101,114,109]:PV),(.fn 153 [.ip [.fn 90 []] 0]:PV))]=tabT2:=rfl
def tabT3:List (PV × PV):=tabT2++[(.str [115,112,108,105,116,104],.fn 153 [.ip [.fn 187 [.ip [.str [104]] 0]] 0])]
theorem zsd:findKey (.str [115,112,108,105,116,104]) tabT2 0=some none:=rfl
theorem zsn:tabT2++[((.str [115,112,108,105,116,104]:PV),(.fn 153 [.ip [.fn 187 [.ip [.str [104]] 0]] 0]:PV))]=tabT3:=rfl
def tabT4:List (PV × PV):=tabT3++[(.str [115,112,108,105,116,118],.fn 153 [.ip [.fn 187 [.ip [.str [118]] 0]] 0])]
theorem zse:findKey (.str [115,112,108,105,116,118]) tabT3 0=some none:=rfl
theorem zso:tabT3++[((.str [115,112,108,105,116,118]:PV),(.fn 153 [.ip [.fn 187 [.ip [.str [118]] 0]] 0]:PV))]=tabT4:=rfl
def tabT5:List (PV × PV):=tabT4++[(.str [119,105,100,101],.fn 153 [.ip [.fn 93 []] 0])]
theorem zsf:findKey (.str [119,105,100,101]) tabT4 0=some none:=rfl
theorem zsp:tabT4++[((.str [119,105,100,101]:PV),(.fn 153 [.ip [.fn 93 []] 0]:PV))]=tabT5:=rfl
def tabT6:List (PV × PV):=tabT5++[(.str [109,101,114,103,101],.fn 153 [.ip [.fn 96 []] 0])]
theorem zsg:findKey (.str [109,101,114,103,101]) tabT5 0=some none:=rfl
theorem zsq:tabT5++[((.str [109,101,114,103,101]:PV),(.fn 153 [.ip [.fn 96 []] 0]:PV))]=tabT6:=rfl
def tabT7:List (PV × PV):=tabT6++[(.str [114,111,111,109],.fn 196 [.ip [.int .i64 (1)] 0,.ip [.fn 99 []] 0])]
theorem zsh:findKey (.str [114,111,111,109]) tabT6 0=some none:=rfl
theorem zsr:tabT6++[((.str [114,111,111,109]:PV),(.fn 196 [.ip [.int .i64 (1)] 0,.ip [.fn 99 []] 0]:PV))]=tabT7:=rfl
def tabT8:List (PV × PV):=tabT7++[(.str [115,105,100,101,115],.fn 196 [.ip [.int .i64 (1)] 0,.ip [.fn 101 []] 0])]
theorem zsi:findKey (.str [115,105,100,101,115]) tabT7 0=some none:=rfl
theorem zss:tabT7++[((.str [115,105,100,101,115]:PV),(.fn 196 [.ip [.int .i64 (1)] 0,.ip [.fn 101 []] 0]:PV))]=tabT8:=rfl
def tabT9:List (PV × PV):=tabT8++[(.str [110,101,97,114],.fn 196 [.ip [.int .i64 (1)] 0,.ip [.fn 103 []] 0])]
theorem zsj:findKey (.str [110,101,97,114]) tabT8 0=some none:=rfl
theorem zst:tabT8++[((.str [110,101,97,114]:PV),(.fn 196 [.ip [.int .i64 (1)] 0,.ip [.fn 103 []] 0]:PV))]=tabT9:=rfl
def tabT10:List (PV × PV):=tabT9++[(.str [119,97,121],.fn 196 [.ip [.int .i64 (2)] 0,.ip [.fn 105 []] 0])]
theorem zsk:findKey (.str [119,97,121]) tabT9 0=some none:=rfl
theorem zsu:tabT9++[((.str [119,97,121]:PV),(.fn 196 [.ip [.int .i64 (2)] 0,.ip [.fn 105 []] 0]:PV))]=tabT10:=rfl
def tabT11:List (PV × PV):=tabT10++[(.str [107,105,110,100],.fn 196 [.ip [.int .i64 (2)] 0,.ip [.fn 107 []] 0])]
theorem zhw:findKey (.str [107,105,110,100]) tabT10 0=some none:=rfl
theorem zh6:tabT10++[((.str [107,105,110,100]:PV),(.fn 196 [.ip [.int .i64 (2)] 0,.ip [.fn 107 []] 0]:PV))]=tabT11:=rfl
def tabT12:List (PV × PV):=tabT11++[(.str [115,105,122,101],.fn 196 [.ip [.int .i64 (-1)] 0,.ip [.fn 109 []] 0])]
theorem zhx:findKey (.str [115,105,122,101]) tabT11 0=some none:=rfl
theorem zh7:tabT11++[((.str [115,105,122,101]:PV),(.fn 196 [.ip [.int .i64 (-1)] 0,.ip [.fn 109 []] 0]:PV))]=tabT12:=rfl
def tabT13:List (PV × PV):=tabT12++[(.str [104,105,103,104],.fn 196 [.ip [.int .i64 (-1)] 0,.ip [.fn 111 []] 0])]
theorem zhy:findKey (.str [104,105,103,104]) tabT12 0=some none:=rfl
theorem zh8:tabT12++[((.str [104,105,103,104]:PV),(.fn 196 [.ip [.int .i64 (-1)] 0,.ip [.fn 111 []] 0]:PV))]=tabT13:=rfl
def tabT14:List (PV × PV):=tabT13++[(.str [112,108,97,99,101,115],.fn 196 [.ip [.int .i64 (-1)] 0,.ip [.fn 113 []] 0])]
theorem zhz:findKey (.str [112,108,97,99,101,115]) tabT13 0=some none:=rfl
theorem zh9:tabT13++[((.str [112,108,97,99,101,115]:PV),(.fn 196 [.ip [.int .i64 (-1)] 0,.ip [.fn 113 []] 0]:PV))]=tabT14:=rfl
def tabT15:List (PV × PV):=tabT14++[(.str [115,104,101,101,116],.fn 196 [.ip [.int .i64 (4)] 0,.ip [.fn 115 []] 0])]
theorem zh0:findKey (.str [115,104,101,101,116]) tabT14 0=some none:=rfl
theorem zia:tabT14++[((.str [115,104,101,101,116]:PV),(.fn 196 [.ip [.int .i64 (4)] 0,.ip [.fn 115 []] 0]:PV))]=tabT15:=rfl
def tabT16:List (PV × PV):=tabT15++[(.str [115,113,117,97,114,101,115],.fn 196 [.ip [.int .i64 (2)] 0,.ip [.fn 117 []] 0])]
theorem zh1:findKey (.str [115,113,117,97,114,101,115]) tabT15 0=some none:=rfl
theorem zib:tabT15++[((.str [115,113,117,97,114,101,115]:PV),(.fn 196 [.ip [.int .i64 (2)] 0,.ip [.fn 117 []] 0]:PV))]=tabT16:=rfl
def tabT17:List (PV × PV):=tabT16++[(.str [102,97,105,114],.fn 196 [.ip [.int .i64 (-1)] 0,.ip [.fn 119 []] 0])]
theorem zh2:findKey (.str [102,97,105,114]) tabT16 0=some none:=rfl
theorem zic:tabT16++[((.str [102,97,105,114]:PV),(.fn 196 [.ip [.int .i64 (-1)] 0,.ip [.fn 119 []] 0]:PV))]=tabT17:=rfl
def tabT18:List (PV × PV):=tabT17++[(.str [108,111,111,115,101],.fn 196 [.ip [.int .i64 (-1)] 0,.ip [.fn 121 []] 0])]
theorem zh3:findKey (.str [108,111,111,115,101]) tabT17 0=some none:=rfl
theorem zid:tabT17++[((.str [108,111,111,115,101]:PV),(.fn 196 [.ip [.int .i64 (-1)] 0,.ip [.fn 121 []] 0]:PV))]=tabT18:=rfl
def tabT19:List (PV × PV):=tabT18++[(.str [108,101,102,116],.fn 219 [.ip [.fn 124 []] 0])]
theorem zh4:findKey (.str [108,101,102,116]) tabT18 0=some none:=rfl
theorem zie:tabT18++[((.str [108,101,102,116]:PV),(.fn 219 [.ip [.fn 124 []] 0]:PV))]=tabT19:=rfl
def tabT20:List (PV × PV):=tabT19++[(.str [116,105,100,121],.fn 219 [.ip [.fn 125 []] 0])]
theorem zh5:findKey (.str [116,105,100,121]) tabT19 0=some none:=rfl
theorem zif:tabT19++[((.str [116,105,100,121]:PV),(.fn 219 [.ip [.fn 125 []] 0]:PV))]=tabT20:=rfl
abbrev tabA:=tabA26
abbrev tabT:=tabT20
theorem z3d:findKey (.str [112,114,111,111,102]) tabA26 0=some (some (25,.fn 166 [.ip [.fn 13 []] 0,.ip [.fn 76 []] 0])):=rfl
theorem z5i:findKey (.str [112,108,97,110]) tabT20 0=some (some (0,.fn 153 [.ip [.fn 87 []] 0])):=rfl
theorem z9i {X0 X1:Ob} {t:Nat}:Ev Tryz.prog 21 [] ⟨[X0,X1],t⟩ fun v S=>v = .tup [.mp 2 t,.mp 3 (t+1)]∧S=⟨[X0,X1,.map t tabA,.map (t+1) tabT],t+2⟩:=by
 refine Ev.of ⟨Tryz.func21,by kernel_rfl,rfl,by kernel_rfl⟩ zao mixed (by show 0≤Tryz.f21.ntmps; decide) ?_
 refine W.r fun K hK=>?_
 simp(disch:=omega)only[↓RU,RV,RH,↓reduceIte,qE,reduceCtorEq,if_pos,↓RS,RG,qA,qM,qL]
 apply hK;clear hK K
 refine W.r fun K hK=>?_
 simp(disch:=omega)only[↓RU,RV,RH,↓reduceIte,qE,reduceCtorEq,if_pos,qN,↓RS,RG,qA,qM,qL,zhg,zhh,zhi,zab,zg5,true_and,zov,zo6,zow,zo7,zox,zo8,zoy,zo9,zoz,zpa,zo0,zpb,zo1,zpc,zo2,zpd,zo3,zpe,zo4,zpf,zft,zf9,zfu,zga,zfv,zgb,zfw,zgc,zfx,zgd,zfy,zge,zfz,zgf,zf0,zgg,zf1,zgh,zf2,zgi,zf3,zgj,zf4,zgk,zf5,zgl,zf6,zgm,zf7,zgn,zf8,zgo]
 refine zac.pc (zj4 52) rfl (.inr rfl) ?_
 simp(disch:=omega)only[↓RU,RV,RH,↓reduceIte,qE,reduceCtorEq,if_pos,qN,↓RS,RG,qA,qM,qL,zhg,zhh,zhi,zab,zg5,true_and,zov,zo6,zow,zo7,zox,zo8,zoy,zo9,zoz,zpa,zo0,zpb,zo1,zpc,zo2,zpd,zo3,zpe,zo4,zpf,zft,zf9,zfu,zga,zfv,zgb,zfw,zgc,zfx,zgd,zfy,zge,zfz,zgf,zf0,zgg,zf1,zgh,zf2,zgi,zf3,zgj,zf4,zgk,zf5,zgl,zf6,zgm,zf7,zgn,zf8,zgo]
 refine zac.pc (zj4 53) rfl (.inr rfl) ?_
 simp(disch:=omega)only[↓RU,RV,RH,↓reduceIte,qE,reduceCtorEq,if_pos,qN,↓RS,RG,qA,qM,qL,zhg,zhh,zhi,zab,zg5,true_and,zov,zo6,zow,zo7,zox,zo8,zoy,zo9,zoz,zpa,zo0,zpb,zo1,zpc,zo2,zpd,zo3,zpe,zo4,zpf,zft,zf9,zfu,zga,zfv,zgb,zfw,zgc,zfx,zgd,zfy,zge,zfz,zgf,zf0,zgg,zf1,zgh,zf2,zgi,zf3,zgj,zf4,zgk,zf5,zgl,zf6,zgm,zf7,zgn,zf8,zgo]
 refine zac.pc (zj4 54) rfl (.inr rfl) ?_
 simp(disch:=omega)only[↓RU,RV,RH,↓reduceIte,qE,reduceCtorEq,if_pos,qN,↓RS,RG,qA,qM,qL,zhg,zhh,zhi,zab,zg5,true_and,zov,zo6,zow,zo7,zox,zo8,zoy,zo9,zoz,zpa,zo0,zpb,zo1,zpc,zo2,zpd,zo3,zpe,zo4,zpf,zft,zf9,zfu,zga,zfv,zgb,zfw,zgc,zfx,zgd,zfy,zge,zfz,zgf,zf0,zgg,zf1,zgh,zf2,zgi,zf3,zgj,zf4,zgk,zf5,zgl,zf6,zgm,zf7,zgn,zf8,zgo]
 refine zac.pc (zj4 55) rfl (.inr rfl) ?_
 simp(disch:=omega)only[↓RU,RV,RH,↓reduceIte,qE,reduceCtorEq,if_pos,qN,↓RS,RG,qA,qM,qL,zhg,zhh,zhi,zab,zg5,true_and,zov,zo6,zow,zo7,zox,zo8,zoy,zo9,zoz,zpa,zo0,zpb,zo1,zpc,zo2,zpd,zo3,zpe,zo4,zpf,zft,zf9,zfu,zga,zfv,zgb,zfw,zgc,zfx,zgd,zfy,zge,zfz,zgf,zf0,zgg,zf1,zgh,zf2,zgi,zf3,zgj,zf4,zgk,zf5,zgl,zf6,zgm,zf7,zgn,zf8,zgo]
 refine zac.pc (zgt 58) rfl (.inr rfl) ?_
 simp(disch:=omega)only[↓RU,RV,RH,↓reduceIte,qE,reduceCtorEq,if_pos,qN,↓RS,RG,qA,qM,qL,zhg,zhh,zhi,zab,zg5,true_and,zov,zo6,zow,zo7,zox,zo8,zoy,zo9,zoz,zpa,zo0,zpb,zo1,zpc,zo2,zpd,zo3,zpe,zo4,zpf,zft,zf9,zfu,zga,zfv,zgb,zfw,zgc,zfx,zgd,zfy,zge,zfz,zgf,zf0,zgg,zf1,zgh,zf2,zgi,zf3,zgj,zf4,zgk,zf5,zgl,zf6,zgm,zf7,zgn,zf8,zgo]
 refine zac.pc (zgt 60) rfl (.inr rfl) ?_
 simp(disch:=omega)only[↓RU,RV,RH,↓reduceIte,qE,reduceCtorEq,if_pos,qN,↓RS,RG,qA,qM,qL,zhg,zhh,zhi,zab,zg5,true_and,zov,zo6,zow,zo7,zox,zo8,zoy,zo9,zoz,zpa,zo0,zpb,zo1,zpc,zo2,zpd,zo3,zpe,zo4,zpf,zft,zf9,zfu,zga,zfv,zgb,zfw,zgc,zfx,zgd,zfy,zge,zfz,zgf,zf0,zgg,zf1,zgh,zf2,zgi,zf3,zgj,zf4,zgk,zf5,zgl,zf6,zgm,zf7,zgn,zf8,zgo]
 refine zac.pc (zjp 8 65) rfl (.inr rfl) ?_
 simp(disch:=omega)only[↓RU,RV,RH,↓reduceIte,qE,reduceCtorEq,if_pos,qN,↓RS,RG,qA,qM,qL,zhg,zhh,zhi,zab,zg5,true_and,zov,zo6,zow,zo7,zox,zo8,zoy,zo9,zoz,zpa,zo0,zpb,zo1,zpc,zo2,zpd,zo3,zpe,zo4,zpf,zft,zf9,zfu,zga,zfv,zgb,zfw,zgc,zfx,zgd,zfy,zge,zfz,zgf,zf0,zgg,zf1,zgh,zf2,zgi,zf3,zgj,zf4,zgk,zf5,zgl,zf6,zgm,zf7,zgn,zf8,zgo]
 refine zac.pc (zna 67 68) rfl (.inr rfl) ?_
 simp(disch:=omega)only[↓RU,RV,RH,↓reduceIte,qE,reduceCtorEq,if_pos,qN,↓RS,RG,qA,qM,qL,zhg,zhh,zhi,zab,zg5,true_and,zov,zo6,zow,zo7,zox,zo8,zoy,zo9,zoz,zpa,zo0,zpb,zo1,zpc,zo2,zpd,zo3,zpe,zo4,zpf,zft,zf9,zfu,zga,zfv,zgb,zfw,zgc,zfx,zgd,zfy,zge,zfz,zgf,zf0,zgg,zf1,zgh,zf2,zgi,zf3,zgj,zf4,zgk,zf5,zgl,zf6,zgm,zf7,zgn,zf8,zgo]
 refine zac.pc (zjp 72 65) rfl (.inr rfl) ?_
 simp(disch:=omega)only[↓RU,RV,RH,↓reduceIte,qE,reduceCtorEq,if_pos,qN,↓RS,RG,qA,qM,qL,zhg,zhh,zhi,zab,zg5,true_and,zov,zo6,zow,zo7,zox,zo8,zoy,zo9,zoz,zpa,zo0,zpb,zo1,zpc,zo2,zpd,zo3,zpe,zo4,zpf,zft,zf9,zfu,zga,zfv,zgb,zfw,zgc,zfx,zgd,zfy,zge,zfz,zgf,zf0,zgg,zf1,zgh,zf2,zgi,zf3,zgj,zf4,zgk,zf5,zgl,zf6,zgm,zf7,zgn,zf8,zgo]
 refine zac.pc (zjp 73 65) rfl (.inr rfl) ?_
 simp(disch:=omega)only[↓RU,RV,RH,↓reduceIte,qE,reduceCtorEq,if_pos,qN,↓RS,RG,qA,qM,qL,zhg,zhh,zhi,zab,zg5,true_and,zov,zo6,zow,zo7,zox,zo8,zoy,zo9,zoz,zpa,zo0,zpb,zo1,zpc,zo2,zpd,zo3,zpe,zo4,zpf,zft,zf9,zfu,zga,zfv,zgb,zfw,zgc,zfx,zgd,zfy,zge,zfz,zgf,zf0,zgg,zf1,zgh,zf2,zgi,zf3,zgj,zf4,zgk,zf5,zgl,zf6,zgm,zf7,zgn,zf8,zgo]
 refine zac.pc (zjp 74 65) rfl (.inr rfl) ?_
 simp(disch:=omega)only[↓RU,RV,RH,↓reduceIte,qE,reduceCtorEq,if_pos,qN,↓RS,RG,qA,qM,qL,zhg,zhh,zhi,zab,zg5,true_and,zov,zo6,zow,zo7,zox,zo8,zoy,zo9,zoz,zpa,zo0,zpb,zo1,zpc,zo2,zpd,zo3,zpe,zo4,zpf,zft,zf9,zfu,zga,zfv,zgb,zfw,zgc,zfx,zgd,zfy,zge,zfz,zgf,zf0,zgg,zf1,zgh,zf2,zgi,zf3,zgj,zf4,zgk,zf5,zgl,zf6,zgm,zf7,zgn,zf8,zgo]
 refine zac.pc (zzv 6 76) rfl (.inr rfl) ?_
 simp(disch:=omega)only[↓RU,RV,RH,↓reduceIte,qE,reduceCtorEq,if_pos,qN,↓RS,RG,qA,qM,qL,zhg,zhh,zhi,zab,zg5,true_and,zov,zo6,zow,zo7,zox,zo8,zoy,zo9,zoz,zpa,zo0,zpb,zo1,zpc,zo2,zpd,zo3,zpe,zo4,zpf,zft,zf9,zfu,zga,zfv,zgb,zfw,zgc,zfx,zgd,zfy,zge,zfz,zgf,zf0,zgg,zf1,zgh,zf2,zgi,zf3,zgj,zf4,zgk,zf5,zgl,zf6,zgm,zf7,zgn,zf8,zgo]
 refine zac.pc (zjp 77 65) rfl (.inr rfl) ?_
 simp(disch:=omega)only[↓RU,RV,RH,↓reduceIte,qE,reduceCtorEq,if_pos,qN,↓RS,RG,qA,qM,qL,zhg,zhh,zhi,zab,zg5,true_and,zov,zo6,zow,zo7,zox,zo8,zoy,zo9,zoz,zpa,zo0,zpb,zo1,zpc,zo2,zpd,zo3,zpe,zo4,zpf,zft,zf9,zfu,zga,zfv,zgb,zfw,zgc,zfx,zgd,zfy,zge,zfz,zgf,zf0,zgg,zf1,zgh,zf2,zgi,zf3,zgj,zf4,zgk,zf5,zgl,zf6,zgm,zf7,zgn,zf8,zgo]
 refine zac.pc (zjp 78 65) rfl (.inr rfl) ?_
 simp(disch:=omega)only[↓RU,RV,RH,↓reduceIte,qE,reduceCtorEq,if_pos,qN,↓RS,RG,qA,qM,qL,zhg,zhh,zhi,zab,zg5,true_and,zov,zo6,zow,zo7,zox,zo8,zoy,zo9,zoz,zpa,zo0,zpb,zo1,zpc,zo2,zpd,zo3,zpe,zo4,zpf,zft,zf9,zfu,zga,zfv,zgb,zfw,zgc,zfx,zgd,zfy,zge,zfz,zgf,zf0,zgg,zf1,zgh,zf2,zgi,zf3,zgj,zf4,zgk,zf5,zgl,zf6,zgm,zf7,zgn,zf8,zgo]
 refine zac.pc (zna 79 68) rfl (.inr rfl) ?_
 simp(disch:=omega)only[↓RU,RV,RH,↓reduceIte,qE,reduceCtorEq,if_pos,qN,↓RS,RG,qA,qM,qL,zhg,zhh,zhi,zab,zg5,true_and,zov,zo6,zow,zo7,zox,zo8,zoy,zo9,zoz,zpa,zo0,zpb,zo1,zpc,zo2,zpd,zo3,zpe,zo4,zpf,zft,zf9,zfu,zga,zfv,zgb,zfw,zgc,zfx,zgd,zfy,zge,zfz,zgf,zf0,zgg,zf1,zgh,zf2,zgi,zf3,zgj,zf4,zgk,zf5,zgl,zf6,zgm,zf7,zgn,zf8,zgo]
 refine zac.pc (zjp 80 65) rfl (.inr rfl) ?_
 simp(disch:=omega)only[↓RU,RV,RH,↓reduceIte,qE,reduceCtorEq,if_pos,qN,↓RS,RG,qA,qM,qL,zhg,zhh,zhi,zab,zg5,true_and,zov,zo6,zow,zo7,zox,zo8,zoy,zo9,zoz,zpa,zo0,zpb,zo1,zpc,zo2,zpd,zo3,zpe,zo4,zpf,zft,zf9,zfu,zga,zfv,zgb,zfw,zgc,zfx,zgd,zfy,zge,zfz,zgf,zf0,zgg,zf1,zgh,zf2,zgi,zf3,zgj,zf4,zgk,zf5,zgl,zf6,zgm,zf7,zgn,zf8,zgo]
 refine zac.pc (zjp 81 65) rfl (.inr rfl) ?_
 simp(disch:=omega)only[↓RU,RV,RH,↓reduceIte,qE,reduceCtorEq,if_pos,qN,↓RS,RG,qA,qM,qL,zhg,zhh,zhi,zab,zg5,true_and,zov,zo6,zow,zo7,zox,zo8,zoy,zo9,zoz,zpa,zo0,zpb,zo1,zpc,zo2,zpd,zo3,zpe,zo4,zpf,zft,zf9,zfu,zga,zfv,zgb,zfw,zgc,zfx,zgd,zfy,zge,zfz,zgf,zf0,zgg,zf1,zgh,zf2,zgi,zf3,zgj,zf4,zgk,zf5,zgl,zf6,zgm,zf7,zgn,zf8,zgo]
 refine zac.pc (zna 82 68) rfl (.inr rfl) ?_
 simp(disch:=omega)only[↓RU,RV,RH,↓reduceIte,qE,reduceCtorEq,if_pos,qN,↓RS,RG,qA,qM,qL,zhg,zhh,zhi,zab,zg5,true_and,zov,zo6,zow,zo7,zox,zo8,zoy,zo9,zoz,zpa,zo0,zpb,zo1,zpc,zo2,zpd,zo3,zpe,zo4,zpf,zft,zf9,zfu,zga,zfv,zgb,zfw,zgc,zfx,zgd,zfy,zge,zfz,zgf,zf0,zgg,zf1,zgh,zf2,zgi,zf3,zgj,zf4,zgk,zf5,zgl,zf6,zgm,zf7,zgn,zf8,zgo]
 refine zac.pc (zna 83 68) rfl (.inr rfl) ?_
 simp(disch:=omega)only[↓RU,RV,RH,↓reduceIte,qE,reduceCtorEq,if_pos,qN,↓RS,RG,qA,qM,qL,zhg,zhh,zhi,zab,zg5,true_and,zov,zo6,zow,zo7,zox,zo8,zoy,zo9,zoz,zpa,zo0,zpb,zo1,zpc,zo2,zpd,zo3,zpe,zo4,zpf,zft,zf9,zfu,zga,zfv,zgb,zfw,zgc,zfx,zgd,zfy,zge,zfz,zgf,zf0,zgg,zf1,zgh,zf2,zgi,zf3,zgj,zf4,zgk,zf5,zgl,zf6,zgm,zf7,zgn,zf8,zgo]
 refine zac.pc (zna 84 68) rfl (.inr rfl) ?_
 simp(disch:=omega)only[↓RU,RV,RH,↓reduceIte,qE,reduceCtorEq,if_pos,qN,↓RS,RG,qA,qM,qL,zhg,zhh,zhi,zab,zg5,true_and,zov,zo6,zow,zo7,zox,zo8,zoy,zo9,zoz,zpa,zo0,zpb,zo1,zpc,zo2,zpd,zo3,zpe,zo4,zpf,zft,zf9,zfu,zga,zfv,zgb,zfw,zgc,zfx,zgd,zfy,zge,zfz,zgf,zf0,zgg,zf1,zgh,zf2,zgi,zf3,zgj,zf4,zgk,zf5,zgl,zf6,zgm,zf7,zgn,zf8,zgo]
 refine zac.pc (zna 85 68) rfl (.inr rfl) ?_
 simp(disch:=omega)only[↓RU,RV,RH,↓reduceIte,qE,reduceCtorEq,if_pos,qN,↓RS,RG,qA,qM,qL,zhg,zhh,zhi,zab,zg5,true_and,zov,zo6,zow,zo7,zox,zo8,zoy,zo9,zoz,zpa,zo0,zpb,zo1,zpc,zo2,zpd,zo3,zpe,zo4,zpf,zft,zf9,zfu,zga,zfv,zgb,zfw,zgc,zfx,zgd,zfy,zge,zfz,zgf,zf0,zgg,zf1,zgh,zf2,zgi,zf3,zgj,zf4,zgk,zf5,zgl,zf6,zgm,zf7,zgn,zf8,zgo]
 refine zac.pc (zzv 86 76) rfl (.inr rfl) ?_
 simp(disch:=omega)only[↓RU,RV,RH,↓reduceIte,qE,reduceCtorEq,if_pos,qN,↓RS,RG,qA,qM,qL,zhg,zhh,zhi,zab,zg5,true_and,zov,zo6,zow,zo7,zox,zo8,zoy,zo9,zoz,zpa,zo0,zpb,zo1,zpc,zo2,zpd,zo3,zpe,zo4,zpf,zft,zf9,zfu,zga,zfv,zgb,zfw,zgc,zfx,zgd,zfy,zge,zfz,zgf,zf0,zgg,zf1,zgh,zf2,zgi,zf3,zgj,zf4,zgk,zf5,zgl,zf6,zgm,zf7,zgn,zf8,zgo]
 refine zac.pc (zzv 13 76) rfl (.inr rfl) ?_
 simp(disch:=omega)only[↓RU,RV,RH,↓reduceIte,qE,reduceCtorEq,if_pos,qN,↓RS,RG,qA,qM,qL,zhg,zhh,zhi,zab,zg5,true_and,zov,zo6,zow,zo7,zox,zo8,zoy,zo9,zoz,zpa,zo0,zpb,zo1,zpc,zo2,zpd,zo3,zpe,zo4,zpf,zft,zf9,zfu,zga,zfv,zgb,zfw,zgc,zfx,zgd,zfy,zge,zfz,zgf,zf0,zgg,zf1,zgh,zf2,zgi,zf3,zgj,zf4,zgk,zf5,zgl,zf6,zgm,zf7,zgn,zf8,zgo]
 apply hK;clear hK K
 refine W.r fun K hK=>?_
 simp(disch:=omega)only[↓RU,RV,RH,↓reduceIte,qE,reduceCtorEq,if_pos,qN,↓RS,RG,qA,qM,qL,zhg,zhh,zhi,zab,zg5,true_and,zsb,zsl,zsc,zsm,zsd,zsn,zse,zso,zsf,zsp,zsg,zsq,zsh,zsr,zsi,zss,zsj,zst,zsk,zsu,zhw,zh6,zhx,zh7,zhy,zh8,zhz,zh9,zh0,zia,zh1,zib,zh2,zic,zh3,zid,zh4,zie,zh5,zif]
 refine zac.pc (zgt 87) rfl (.inr rfl) ?_
 simp(disch:=omega)only[↓RU,RV,RH,↓reduceIte,qE,reduceCtorEq,if_pos,qN,↓RS,RG,qA,qM,qL,zhg,zhh,zhi,zab,zg5,true_and,zsb,zsl,zsc,zsm,zsd,zsn,zse,zso,zsf,zsp,zsg,zsq,zsh,zsr,zsi,zss,zsj,zst,zsk,zsu,zhw,zh6,zhx,zh7,zhy,zh8,zhz,zh9,zh0,zia,zh1,zib,zh2,zic,zh3,zid,zh4,zie,zh5,zif]
 refine zac.pc (zgt 90) rfl (.inr rfl) ?_
 simp(disch:=omega)only[↓RU,RV,RH,↓reduceIte,qE,reduceCtorEq,if_pos,qN,↓RS,RG,qA,qM,qL,zhg,zhh,zhi,zab,zg5,true_and,zsb,zsl,zsc,zsm,zsd,zsn,zse,zso,zsf,zsp,zsg,zsq,zsh,zsr,zsi,zss,zsj,zst,zsk,zsu,zhw,zh6,zhx,zh7,zhy,zh8,zhz,zh9,zh0,zia,zh1,zib,zh2,zic,zh3,zid,zh4,zie,zh5,zif]
 refine zac.pc (zx3 [104]) rfl (.inr rfl) ?_
 simp(disch:=omega)only[↓RU,RV,RH,↓reduceIte,qE,reduceCtorEq,if_pos,qN,↓RS,RG,qA,qM,qL,zhg,zhh,zhi,zab,zg5,true_and,zsb,zsl,zsc,zsm,zsd,zsn,zse,zso,zsf,zsp,zsg,zsq,zsh,zsr,zsi,zss,zsj,zst,zsk,zsu,zhw,zh6,zhx,zh7,zhy,zh8,zhz,zh9,zh0,zia,zh1,zib,zh2,zic,zh3,zid,zh4,zie,zh5,zif]
 refine zac.pc (zx3 [118]) rfl (.inr rfl) ?_
 simp(disch:=omega)only[↓RU,RV,RH,↓reduceIte,qE,reduceCtorEq,if_pos,qN,↓RS,RG,qA,qM,qL,zhg,zhh,zhi,zab,zg5,true_and,zsb,zsl,zsc,zsm,zsd,zsn,zse,zso,zsf,zsp,zsg,zsq,zsh,zsr,zsi,zss,zsj,zst,zsk,zsu,zhw,zh6,zhx,zh7,zhy,zh8,zhz,zh9,zh0,zia,zh1,zib,zh2,zic,zh3,zid,zh4,zie,zh5,zif]
 refine zac.pc (zgt 93) rfl (.inr rfl) ?_
 simp(disch:=omega)only[↓RU,RV,RH,↓reduceIte,qE,reduceCtorEq,if_pos,qN,↓RS,RG,qA,qM,qL,zhg,zhh,zhi,zab,zg5,true_and,zsb,zsl,zsc,zsm,zsd,zsn,zse,zso,zsf,zsp,zsg,zsq,zsh,zsr,zsi,zss,zsj,zst,zsk,zsu,zhw,zh6,zhx,zh7,zhy,zh8,zhz,zh9,zh0,zia,zh1,zib,zh2,zic,zh3,zid,zh4,zie,zh5,zif]
 refine zac.pc (zgt 96) rfl (.inr rfl) ?_
 simp(disch:=omega)only[↓RU,RV,RH,↓reduceIte,qE,reduceCtorEq,if_pos,qN,↓RS,RG,qA,qM,qL,zhg,zhh,zhi,zab,zg5,true_and,zsb,zsl,zsc,zsm,zsd,zsn,zse,zso,zsf,zsp,zsg,zsq,zsh,zsr,zsi,zss,zsj,zst,zsk,zsu,zhw,zh6,zhx,zh7,zhy,zh8,zhz,zh9,zh0,zia,zh1,zib,zh2,zic,zh3,zid,zh4,zie,zh5,zif]
 refine zac.pc (zfq (1) 99) rfl (.inr rfl) ?_
 simp(disch:=omega)only[↓RU,RV,RH,↓reduceIte,qE,reduceCtorEq,if_pos,qN,↓RS,RG,qA,qM,qL,zhg,zhh,zhi,zab,zg5,true_and,zsb,zsl,zsc,zsm,zsd,zsn,zse,zso,zsf,zsp,zsg,zsq,zsh,zsr,zsi,zss,zsj,zst,zsk,zsu,zhw,zh6,zhx,zh7,zhy,zh8,zhz,zh9,zh0,zia,zh1,zib,zh2,zic,zh3,zid,zh4,zie,zh5,zif]
 refine zac.pc (zfq (1) 101) rfl (.inr rfl) ?_
 simp(disch:=omega)only[↓RU,RV,RH,↓reduceIte,qE,reduceCtorEq,if_pos,qN,↓RS,RG,qA,qM,qL,zhg,zhh,zhi,zab,zg5,true_and,zsb,zsl,zsc,zsm,zsd,zsn,zse,zso,zsf,zsp,zsg,zsq,zsh,zsr,zsi,zss,zsj,zst,zsk,zsu,zhw,zh6,zhx,zh7,zhy,zh8,zhz,zh9,zh0,zia,zh1,zib,zh2,zic,zh3,zid,zh4,zie,zh5,zif]
 refine zac.pc (zfq (1) 103) rfl (.inr rfl) ?_
 simp(disch:=omega)only[↓RU,RV,RH,↓reduceIte,qE,reduceCtorEq,if_pos,qN,↓RS,RG,qA,qM,qL,zhg,zhh,zhi,zab,zg5,true_and,zsb,zsl,zsc,zsm,zsd,zsn,zse,zso,zsf,zsp,zsg,zsq,zsh,zsr,zsi,zss,zsj,zst,zsk,zsu,zhw,zh6,zhx,zh7,zhy,zh8,zhz,zh9,zh0,zia,zh1,zib,zh2,zic,zh3,zid,zh4,zie,zh5,zif]
 refine zac.pc (zfq (2) 105) rfl (.inr rfl) ?_
 simp(disch:=omega)only[↓RU,RV,RH,↓reduceIte,qE,reduceCtorEq,if_pos,qN,↓RS,RG,qA,qM,qL,zhg,zhh,zhi,zab,zg5,true_and,zsb,zsl,zsc,zsm,zsd,zsn,zse,zso,zsf,zsp,zsg,zsq,zsh,zsr,zsi,zss,zsj,zst,zsk,zsu,zhw,zh6,zhx,zh7,zhy,zh8,zhz,zh9,zh0,zia,zh1,zib,zh2,zic,zh3,zid,zh4,zie,zh5,zif]
 refine zac.pc (zfq (2) 107) rfl (.inr rfl) ?_
 simp(disch:=omega)only[↓RU,RV,RH,↓reduceIte,qE,reduceCtorEq,if_pos,qN,↓RS,RG,qA,qM,qL,zhg,zhh,zhi,zab,zg5,true_and,zsb,zsl,zsc,zsm,zsd,zsn,zse,zso,zsf,zsp,zsg,zsq,zsh,zsr,zsi,zss,zsj,zst,zsk,zsu,zhw,zh6,zhx,zh7,zhy,zh8,zhz,zh9,zh0,zia,zh1,zib,zh2,zic,zh3,zid,zh4,zie,zh5,zif]
 refine zac.pc (zfq (-1) 109) rfl (.inr rfl) ?_
 simp(disch:=omega)only[↓RU,RV,RH,↓reduceIte,qE,reduceCtorEq,if_pos,qN,↓RS,RG,qA,qM,qL,zhg,zhh,zhi,zab,zg5,true_and,zsb,zsl,zsc,zsm,zsd,zsn,zse,zso,zsf,zsp,zsg,zsq,zsh,zsr,zsi,zss,zsj,zst,zsk,zsu,zhw,zh6,zhx,zh7,zhy,zh8,zhz,zh9,zh0,zia,zh1,zib,zh2,zic,zh3,zid,zh4,zie,zh5,zif]
 refine zac.pc (zfq (-1) 111) rfl (.inr rfl) ?_
 simp(disch:=omega)only[↓RU,RV,RH,↓reduceIte,qE,reduceCtorEq,if_pos,qN,↓RS,RG,qA,qM,qL,zhg,zhh,zhi,zab,zg5,true_and,zsb,zsl,zsc,zsm,zsd,zsn,zse,zso,zsf,zsp,zsg,zsq,zsh,zsr,zsi,zss,zsj,zst,zsk,zsu,zhw,zh6,zhx,zh7,zhy,zh8,zhz,zh9,zh0,zia,zh1,zib,zh2,zic,zh3,zid,zh4,zie,zh5,zif]
 refine zac.pc (zfq (-1) 113) rfl (.inr rfl) ?_
 simp(disch:=omega)only[↓RU,RV,RH,↓reduceIte,qE,reduceCtorEq,if_pos,qN,↓RS,RG,qA,qM,qL,zhg,zhh,zhi,zab,zg5,true_and,zsb,zsl,zsc,zsm,zsd,zsn,zse,zso,zsf,zsp,zsg,zsq,zsh,zsr,zsi,zss,zsj,zst,zsk,zsu,zhw,zh6,zhx,zh7,zhy,zh8,zhz,zh9,zh0,zia,zh1,zib,zh2,zic,zh3,zid,zh4,zie,zh5,zif]
 refine zac.pc (zfq (4) 115) rfl (.inr rfl) ?_
 simp(disch:=omega)only[↓RU,RV,RH,↓reduceIte,qE,reduceCtorEq,if_pos,qN,↓RS,RG,qA,qM,qL,zhg,zhh,zhi,zab,zg5,true_and,zsb,zsl,zsc,zsm,zsd,zsn,zse,zso,zsf,zsp,zsg,zsq,zsh,zsr,zsi,zss,zsj,zst,zsk,zsu,zhw,zh6,zhx,zh7,zhy,zh8,zhz,zh9,zh0,zia,zh1,zib,zh2,zic,zh3,zid,zh4,zie,zh5,zif]
 refine zac.pc (zfq (2) 117) rfl (.inr rfl) ?_
 simp(disch:=omega)only[↓RU,RV,RH,↓reduceIte,qE,reduceCtorEq,if_pos,qN,↓RS,RG,qA,qM,qL,zhg,zhh,zhi,zab,zg5,true_and,zsb,zsl,zsc,zsm,zsd,zsn,zse,zso,zsf,zsp,zsg,zsq,zsh,zsr,zsi,zss,zsj,zst,zsk,zsu,zhw,zh6,zhx,zh7,zhy,zh8,zhz,zh9,zh0,zia,zh1,zib,zh2,zic,zh3,zid,zh4,zie,zh5,zif]
 refine zac.pc (zfq (-1) 119) rfl (.inr rfl) ?_
 simp(disch:=omega)only[↓RU,RV,RH,↓reduceIte,qE,reduceCtorEq,if_pos,qN,↓RS,RG,qA,qM,qL,zhg,zhh,zhi,zab,zg5,true_and,zsb,zsl,zsc,zsm,zsd,zsn,zse,zso,zsf,zsp,zsg,zsq,zsh,zsr,zsi,zss,zsj,zst,zsk,zsu,zhw,zh6,zhx,zh7,zhy,zh8,zhz,zh9,zh0,zia,zh1,zib,zh2,zic,zh3,zid,zh4,zie,zh5,zif]
 refine zac.pc (zfq (-1) 121) rfl (.inr rfl) ?_
 simp(disch:=omega)only[↓RU,RV,RH,↓reduceIte,qE,reduceCtorEq,if_pos,qN,↓RS,RG,qA,qM,qL,zhg,zhh,zhi,zab,zg5,true_and,zsb,zsl,zsc,zsm,zsd,zsn,zse,zso,zsf,zsp,zsg,zsq,zsh,zsr,zsi,zss,zsj,zst,zsk,zsu,zhw,zh6,zhx,zh7,zhy,zh8,zhz,zh9,zh0,zia,zh1,zib,zh2,zic,zh3,zid,zh4,zie,zh5,zif]
 refine zac.pc (zyt 124) rfl (.inr rfl) ?_
 simp(disch:=omega)only[↓RU,RV,RH,↓reduceIte,qE,reduceCtorEq,if_pos,qN,↓RS,RG,qA,qM,qL,zhg,zhh,zhi,zab,zg5,true_and,zsb,zsl,zsc,zsm,zsd,zsn,zse,zso,zsf,zsp,zsg,zsq,zsh,zsr,zsi,zss,zsj,zst,zsk,zsu,zhw,zh6,zhx,zh7,zhy,zh8,zhz,zh9,zh0,zia,zh1,zib,zh2,zic,zh3,zid,zh4,zie,zh5,zif]
 refine zac.pc (zyt 125) rfl (.inr rfl) ?_
 simp(disch:=omega)only[↓RU,RV,RH,↓reduceIte,qE,reduceCtorEq,if_pos,qN,↓RS,RG,qA,qM,qL,zhg,zhh,zhi,zab,zg5,true_and,zsb,zsl,zsc,zsm,zsd,zsn,zse,zso,zsf,zsp,zsg,zsq,zsh,zsr,zsi,zss,zsj,zst,zsk,zsu,zhw,zh6,zhx,zh7,zhy,zh8,zhz,zh9,zh0,zia,zh1,zib,zh2,zic,zh3,zid,zh4,zie,zh5,zif]
 apply hK;clear hK K
 refine W.r fun K hK=>?_
 simp(disch:=omega)only[↓RU,RV,RH,↓reduceIte,qE,reduceCtorEq,if_pos,↓RS,RG,qA,qM,qL]
 apply hK;clear hK K
 refine W.ret ?_
 refine Br rfl ?_
 exact ⟨4,rfl,rfl⟩
section
def zi5 (row:Txt) (l:Nat) (c:UInt8) (k:Nat):Txt:=(List.range row.length).map fun x=>if l≤x∧x<k then c else row.getD x 0
theorem zki {row:Txt} {l k:Nat} {c:UInt8}:(zi5 row l c k).length=row.length:=by simp [zi5]
theorem z0b {row:Txt} {l:Nat} {c:UInt8}:zi5 row l c l=row:=by
 apply List.ext_getElem?
 intro j
 unfold zi5
 rw [List.getElem?_map]
 by_cases hj:j<row.length
 ·rw [List.getElem?_range hj,qO,if_neg (by omega),List.getD_eq_getElem?_getD,List.getElem?_eq_getElem hj]; rfl
 rw [List.getElem?_eq_none (by simpa using hj),List.getElem?_eq_none (by omega)]; rfl
theorem z0a {row:Txt} {l k:Nat} {c:UInt8} (h1:l≤k) (h2:k<row.length):(zi5 row l c k).set k c=zi5 row l c (k+1):=by
 apply List.ext_getElem?
 intro j
 rw [List.getElem?_set,zki]
 unfold zi5
 rw [List.getElem?_map,List.getElem?_map]
 by_cases hj:j<row.length
 ·rw [List.getElem?_range hj,qO,qO]
  by_cases e:k=j
  ·subst e; rw [if_pos rfl,if_pos h2,if_pos (by omega)]
  rw [if_neg e]
  by_cases q:l≤j∧j<k
  ·rw [if_pos q,if_pos (by omega)]
  rw [if_neg q,if_neg (by omega)]
 rw [if_neg (by omega),List.getElem?_eq_none (by simpa using hj)]; rfl
def zjs (p:List Txt) (t l w:Nat) (c:UInt8) (i:Nat):List Txt:=(List.range p.length).map fun j=>if t≤j∧j<i then zi5 (p.getD j []) l c (l+w) else p.getD j []
theorem zg6 {p:List Txt} {t l w i:Nat} {c:UInt8}:(zjs p t l w c i).length=p.length:=by simp [zjs]
theorem z9z {p:List Txt} {t l w i:Nat} {c:UInt8} {row:Txt} (h:p[i]?=some row):(zjs p t l w c i)[i]?=some row:=by
 have hi:=zc1 h
 unfold zjs
 rw [List.getElem?_map,List.getElem?_range hi,qO,if_neg (by omega),List.getD_eq_getElem?_getD,h]; rfl
theorem z32 {p:List Txt} {t l w:Nat} {c:UInt8}:zjs p t l w c t=p:=by
 apply List.ext_getElem?
 intro j
 unfold zjs
 rw [List.getElem?_map]
 by_cases hj:j<p.length
 ·rw [List.getElem?_range hj,qO,if_neg (by omega),List.getD_eq_getElem?_getD,List.getElem?_eq_getElem hj]; rfl
 rw [List.getElem?_eq_none (by simpa using hj),List.getElem?_eq_none (by omega)]; rfl
theorem z31 {p:List Txt} {t l w i:Nat} {c:UInt8} {row:Txt} (h1:t≤i) (h:p[i]?=some row):(zjs p t l w c i).set i (zi5 row l c (l+w))=zjs p t l w c (i+1):=by
 have hi:=zc1 h
 apply List.ext_getElem?
 intro j
 rw [List.getElem?_set,zg6]
 unfold zjs
 rw [List.getElem?_map,List.getElem?_map]
 by_cases hj:j<p.length
 ·rw [List.getElem?_range hj,qO,qO]
  by_cases e:i=j
  ·subst e; rw [if_pos rfl,if_pos hi,if_pos (by omega),List.getD_eq_getElem?_getD,h]; rfl
  rw [if_neg e]
  by_cases q:t≤j∧j<i
  ·rw [if_pos q,if_pos (by omega)]
  rw [if_neg q,if_neg (by omega)]
 rw [if_neg (by omega),List.getElem?_eq_none (by simpa using hj)]; rfl
theorem zvj {p:List Txt} (hs:Sm p) {t l w i:Nat} {c:UInt8}:Sm (zjs p t l w c i):=by
 refine ⟨by rw [zg6]; exact hs.1,fun r hr=>?_⟩
 obtain ⟨j,hj,rfl⟩:=List.mem_map.1 hr
 have hjl:j<p.length:=by simpa using hj
 have hm:p.getD j []∈p:=by
  rw [List.getD_eq_getElem?_getD,List.getElem?_eq_getElem hjl]; exact List.getElem_mem hjl
 have:=hs.2 _ hm
 split
 ·rw [zki]; exact this
 exact this
def zi8 (p:List Txt):List Txt × Bool:=if zb3 p && zaz (names p) then (names p,true) else ([],false)
theorem z6g {p:List Txt} (hg:zb3 p=true):(names p).length=p.length:=by
 rw [zm9 hg]
 have hr:(gP p).length=p.length:=by rw [z3h]; exact zcc _
 unfold zeh
 rw [List.length_map,hr]
theorem z1a {p:List Txt} (h:(zi8 p).2=true):zaz (zi8 p).1=true∧(zi8 p).1.length=p.length:=by
 unfold zi8 at h ⊢
 split at h
 ·rename_i hq
  rw [if_pos hq]
  simp only[qB]at hq
  exact ⟨hq.2,z6g hq.1⟩
 cases h
def zez (p:List Txt) (room:Int) (s:Txt) (k:Int):List Txt × Bool :=
 if zaz p && (decide (0≤room) && decide (room≤zbo p - 1)) then
  if (s == [104]) && (decide (1≤k) && decide (k≤zdf p room - 1)) then zi8 (zjs p ((zg1 p room).top+k).toNat (zg1 p room).left.toNat (zdd p room).toNat 122 ((zg1 p room).top+k+(zdf p room - k)).toNat)
  else if (s == [118]) && (decide (1≤k) && decide (k≤zdd p room - 1)) then zi8 (zjs p (zg1 p room).top.toNat ((zg1 p room).left+k).toNat (zdd p room - k).toNat 122 ((zg1 p room).top+zdf p room).toNat)
  else ([],false)
 else ([],false)
theorem zys {p:List Txt} {room k:Int} {s:Txt} (h:(zez p room s k).2=true):zaz (zez p room s k).1=true∧(zez p room s k).1.length=p.length:=by
 unfold zez at h ⊢
 by_cases h1:(zaz p && (decide (0≤room) && decide (room≤zbo p - 1)))=true
 ·rw [if_pos h1]at h ⊢
  by_cases h2:((s == [104]) && (decide (1≤k) && decide (k≤zdf p room - 1)))=true
  ·rw [if_pos h2]at h ⊢
   have:=z1a h
   rw [zg6]at this
   exact this
  rw [if_neg h2]at h ⊢
  by_cases h3:((s == [118]) && (decide (1≤k) && decide (k≤zdd p room - 1)))=true
  ·rw [if_pos h3]at h ⊢
   have:=z1a h
   rw [zg6]at this
   exact this
  rw [if_neg h3]at h; cases h
 rw [if_neg h1]at h; cases h
section
variable {p:List Txt} {room:Int} {s:Txt} {t l h w k:Nat}
theorem zhs {k:Int} (hgv:(zaz p && (decide (0≤room) && decide (room≤zbo p - 1)))=false):zez p room s k=([],false):=by
 unfold zez; rw [hgv]; rfl
theorem zfe {k:Int} (h1:((s == [104]) && (decide (1≤k) && decide (k≤zdf p room - 1)))=false) (h2:((s == [118]) && (decide (1≤k) && decide (k≤zdd p room - 1)))=false):zez p room s k=([],false):=by
 unfold zez; rw [h1,h2]; split <;> rfl
theorem zht (hgv:(zaz p && (decide (0≤room) && decide (room≤zbo p - 1)))=true) (e1:(zg1 p room).top=t) (e2:(zg1 p room).left=l) (e3:zdf p room=h) (e4:zdd p room=w)
  (hb:((s == [104]) && (decide (1≤(k:Int)) && decide ((k:Int)≤zdf p room - 1)))=true):zez p room s k=zi8 (zjs p (t+k) l w 122 (t+k+(h - k))):=by
 have hk:(k:Int)≤h - 1:=by simp only[qB,decide_eq_true_eq,e3]at hb; exact hb.2.2
 unfold zez
 rw [if_pos hgv,if_pos hb,e1,e2,e3,e4]
 have a1:((t:Int)+(k:Int)).toNat=t+k:=by omega
 have a2:((t:Int)+(k:Int)+((h:Int) - (k:Int))).toNat=t+k+(h - k):=by omega
 rw [a1,a2,Int.toNat_natCast,Int.toNat_natCast]
theorem zhu (hgv:(zaz p && (decide (0≤room) && decide (room≤zbo p - 1)))=true) (e1:(zg1 p room).top=t) (e2:(zg1 p room).left=l) (e3:zdf p room=h) (e4:zdd p room=w)
  (ha:((s == [104]) && (decide (1≤(k:Int)) && decide ((k:Int)≤zdf p room - 1)))=false) (hb:((s == [118]) && (decide (1≤(k:Int)) && decide ((k:Int)≤zdd p room - 1)))=true):zez p room s k=zi8 (zjs p t (l+k) (w - k) 122 (t+h)):=by
 have hk:(k:Int)≤w - 1:=by simp only[qB,decide_eq_true_eq,e4]at hb; exact hb.2.2
 unfold zez
 rw [if_pos hgv,ha,if_neg Bool.false_ne_true,if_pos hb,e1,e2,e3,e4]
 have a1:((l:Int)+(k:Int)).toNat=l+k:=by omega
 have a2:((t:Int)+(h:Int)).toNat=t+h:=by omega
 have a3:((w:Int) - (k:Int)).toNat=w - k:=by omega
 rw [a1,a2,a3,Int.toNat_natCast]
end
theorem z9v {p:List Txt} (hp:zaz p=true) {room:Int} (h0:0≤room) (h1:room≤zbo p - 1):∃ t l h w:Nat,(zg1 p room).top=t∧(zg1 p room).left=l∧zdf p room=h∧zdd p room=w∧1≤h∧1≤w∧t+h≤p.length∧l+w≤(zal p).length:=by
 have hN:=zdi hp
 have hr:=hN.rooms
 obtain ⟨m,rfl⟩:∃ m:Nat,room=m:=⟨room.toNat,by omega⟩
 have hm:m<(rP p).length:=by omega
 obtain ⟨b,hb,-⟩:=zaf hm
 have hi:=zgp p
 obtain ⟨v,hv,-⟩:=zaf (show m<(keys p).length by rw [← hi.len]; exact hm)
 obtain ⟨e1,e2,e3,e4⟩:=hN.box hb
 obtain ⟨t,l,h,w,q1,q2,q3,q4,q5,q6,q7,q8,-⟩:=Hull.nat (hi.hull m v b hv hb)
 exact ⟨t,l,h,w,by omega,by omega,by omega,by omega,q5,q6,q7,q8⟩
theorem z7p {p:List Txt} (hp:zaz p=true) {i:Nat} {row:Txt} (h:p[i]?=some row):row.length=(zal p).length:=zd3 (zb8 hp) h
theorem zt6 {p:List Txt} (hp:zaz p=true):p.length≤6∧1≤p.length∧∀ row∈p,1≤row.length∧row.length≤6:=by
 have hg:=zb8 hp
 have h:=zay hg
 refine ⟨h.2.1,h.1,fun row hr=>⟨?_,h.2.2 row hr⟩⟩
 obtain ⟨i,hi,rfl⟩:=List.getElem_of_mem hr
 exact zfn hg (List.getElem?_eq_getElem hi)
end
theorem ycz {p:List Txt} (hs:Sm p) (hv:zrh p=false):PC Tryz.prog 174 [zai p] (.tup [.agg [.sl [] 0,.sl [] 0],.bool false]) false:=by
 obtain ⟨x,hx,hxy,hxr⟩:=z3y hs
 refine PC.of ⟨Tryz.func174,by kernel_rfl,rfl,by kernel_rfl⟩ zao mixed (by show 1≤Tryz.f174.ntmps; decide) ?_
 refine W.r fun K hK=>?_
 simp(disch:=omega)only[↓RU,RV,RH,↓reduceIte,qE,reduceCtorEq,if_pos,↓RS,RG,qA,qM,qL,ty0,ty2,zau,ty23,ty27,ty36]
 apply hK;clear hK K
 refine W.r fun K hK=>?_
 simp(disch:=omega)only[↓RU,RV,RH,↓reduceIte,qE,reduceCtorEq,if_pos,qN,↓RS,RG,qA,qM,qL,hv]
 refine zac.pc (hx) rfl (.inr rfl) ?_
 simp(disch:=omega)only[↓RU,RV,RH,↓reduceIte,qE,reduceCtorEq,if_pos,qN,↓RS,RG,qA,qM,qL,hv]
 apply hK;clear hK K
 refine W.seq ?_
 refine W.r fun K hK=>?_
 simp(disch:=omega)only[↓RU,RV,RH,↓reduceIte,qE,reduceCtorEq,if_pos,↓RS,RG,qA,qM,qL]
 apply hK;clear hK K
 refine W.cond rfl (fun h=>?_) (fun h=>?_)
 ·try simp only[RL]at h
  refine W.r fun K hK=>?_
  simp(disch:=omega)only[↓RU,RV,RH,↓reduceIte,qE,reduceCtorEq,if_pos,↓RS,RG,qA,qM,qL,ty0,ty2,zau,ty23,ty27,ty36]
  apply hK;clear hK K
  refine W.ret ?_
  refine XThen.ret ?_
  refine Br rfl ?_
  rfl
 try simp only[RL]at h
 exact absurd h (by simp)
theorem zoa {p:List Txt} (hs:Sm p) (hv:zd9 p=true):PC Tryz.prog 8 [zai p] (.tup [.int .i64 (rP p).length,.bool true]) true:=by
 obtain ⟨x,hx,hxy,hxr⟩:=zj8 hs
 obtain rfl:=hxy hv
 refine PC.of ⟨Tryz.func8,by kernel_rfl,rfl,by kernel_rfl⟩ zao mixed (by show 1≤Tryz.f8.ntmps; decide) ?_
 refine W.r fun K hK=>?_
 simp(disch:=omega)only[↓RU,RV,RH,↓reduceIte,qE,reduceCtorEq,if_pos,↓RS,RG,qA,qM,qL]
 apply hK;clear hK K
 refine W.r fun K hK=>?_
 simp(disch:=omega)only[↓RU,RV,RH,↓reduceIte,qE,reduceCtorEq,if_pos,qN,↓RS,RG,qA,qM,qL,hv]
 refine zac.pc (hx) rfl (.inr rfl) ?_
 simp(disch:=omega)only[↓RU,RV,RH,↓reduceIte,qE,reduceCtorEq,if_pos,qN,↓RS,RG,qA,qM,qL,hv]
 apply hK;clear hK K
 refine W.seq ?_
 refine W.r fun K hK=>?_
 simp(disch:=omega)only[↓RU,RV,RH,↓reduceIte,qE,reduceCtorEq,if_pos,↓RS,RG,qA,qM,qL]
 apply hK;clear hK K
 refine W.cond rfl (fun h=>?_) (fun h=>?_)
 ·try simp only[RL]at h
  exact absurd h (by simp)
 try simp only[RL]at h
 refine W.skip ?_
 refine xn ?_
 refine W.r fun K hK=>?_
 simp(disch:=omega)only[↓RU,RV,RH,↓reduceIte,qE,reduceCtorEq,if_pos,↓RS,RG,qA,qM,qL,ty1,ty3,zae,zgz,zc9,zap,zaa,zg0,zaq,za8]
 apply hK;clear hK K
 refine W.ret ?_
 refine Br rfl ?_
 rfl
def joinS:List Txt→Txt
 | []=>[]
 | [a]=>a
 | a::b::r=>a++47::joinS (b::r)
theorem zkb {a:Txt} {r:List Txt} (h:r≠[]):joinS (a::r)=a++47::joinS r:=by
 cases r with
 | nil=>exact absurd rfl h
 | cons b r=>rfl
theorem zlj:∀ {p:List Txt},p≠[]→(∀ r∈p,(47:UInt8) ∉ r)→(joinS p).count 47=p.length - 1
 | [],h,_=>absurd rfl h
 | [a],_,h=>by
  rw [joinS,List.count_eq_zero_of_not_mem (h a (by simp))]; rfl
 | a::b::r,_,h=>by
  have ih:=zlj (p:=b::r) (by simp) (fun q hq=>h q (by simp [List.mem_cons.1 hq]))
  rw [joinS,List.count_append,List.count_eq_zero_of_not_mem (h a (by simp)),List.count_cons_self,ih]
  simp
theorem z55 {a:Txt} {r:List Txt} (h:r≠[]) (ha:(47:UInt8) ∉ a):Lib.indexByte (joinS (a::r)) 47=(a.length:Int)∧(joinS (a::r)).take a.length=a∧(joinS (a::r)).drop (a.length+1)=joinS r:=by
 rw [zkb h]
 refine ⟨?_,by simp,?_⟩
 ·rcases zux (c:=47) (s:=a++47::joinS r) with ⟨h1,-,-⟩ | ⟨k,hk,h1,h2,h3⟩
  ·rw [zop ha]at h1; cases h1
  rw [h2]
  rw [zop ha]at h3
  have e:=congrArg (fun q=>q.1.length) h3
  simp only[List.length_take]at e
  omega
 rw [List.drop_append,List.drop_eq_nil_of_le (by omega),List.nil_append,show a.length+1 - a.length=1 by omega]
 rfl
theorem z3j {p:List Txt} {r:Txt} (h:p≠[]):joinS (p++[r])=joinS p++47::r:=by
 induction p with
 | nil=>exact absurd rfl h
 | cons a p ih =>
  cases p with
  | nil=>rfl
  | cons b p =>
   have e1:=zkb (a:=a) (r:=b::p++[r]) (by simp)
   have e2:=zkb (a:=a) (r:=b::p) (by simp)
   rw [List.cons_append,e1,ih (by simp),e2,List.append_assoc]
   rfl
theorem zqw:∀ {p:List Txt},(∀ r∈p,r.length≤100)→(joinS p).length≤101*p.length
 | [],_=>by simp [joinS]
 | [a],h=>by have:=h a (by simp); simp [joinS]; omega
 | a::b::r,h=>by
  have ih:=zqw (p:=b::r) (fun q hq=>h q (by simp [List.mem_cons.1 hq]))
  have:=h a (by simp)
  rw [joinS,List.length_append,List.length_cons]
  simp only[List.length_cons]at ih ⊢
  omega
theorem ztp {p:List Txt} {i:Nat} {r:Txt} (h:p[i]?=some r):joinS (p.take (i+1))=if i=0 then r else joinS (p.take i)++47::r:=by
 rw [tk h]
 have hl:=(List.getElem?_eq_some_iff.1 h).1
 split
 ·rename_i h0; subst h0; rfl
 rename_i h0
 exact z3j fun e=>by
  have:=congrArg List.length e
  rw [List.length_take,List.length_nil]at this
  omega
theorem z4c {p:List Txt} (hn:p.length≤100) (hr:∀ r∈p,r.length≤100):PC Tryz.prog 10 [zai p] (.str (joinS p)) true:=by
 have e1:([47]:Txt).length=1:=rfl
 refine PC.of ⟨Tryz.func10,by kernel_rfl,rfl,by kernel_rfl⟩ zao mixed (by show 1≤Tryz.f10.ntmps; decide) ?_
 refine W.r fun K hK=>?_
 simp(disch:=omega)only[↓RU,RV,RH,↓reduceIte,qE,reduceCtorEq,if_pos,↓RS,RG,qA,qM,qL]
 apply hK;clear hK K
 refine W.r fun K hK=>?_
 simp(disch:=omega)only[↓RU,RV,RH,↓reduceIte,qE,reduceCtorEq,if_pos,↓RS,RG,qA,qM,qL]
 apply hK;clear hK K
 refine W.seq ?_
 refine W.r fun K hK=>?_
 simp(disch:=omega)only[↓RU,RV,RH,↓reduceIte,qE,reduceCtorEq,if_pos,↓RS,RG,qA,qM,qL]
 apply hK;clear hK K
 refine W.block ?_
 refine W.loop [0,3,4] (fun n vs S=>∃ i:Nat,n=p.length - i∧i≤p.length∧vs=[zai p,.str (joinS (p.take i)),.int .i64 i]∧S=⟨[],0⟩) p.length ?_ ?_
 ·refine ⟨0,0,rfl,Nat.zero_le _,?_,rfl⟩
  simp [Env.put,Env.of,zag,joinS]
 rintro n vs S - ⟨i,rfl,h_i,rfl,rfl⟩
 refine W.seq ?_
 refine W.r fun K hK=>?_
 simp(disch:=omega)only[↓RU,RV,RH,↓reduceIte,qE,reduceCtorEq,if_pos,w64,↓RS,RG,qA,qM,qL,ty4,zaa,zab]
 apply hK;clear hK K
 refine W.cond rfl (fun h0=>?_) (fun h0=>?_)
 ·try simp only[RL]at h0
  obtain ⟨row,hx,hm⟩:=zaf (show i<p.length by omega)
  have hrl:=hr row hm
  have hjl:=zqw (p:=p.take i) (fun q hq=>hr q (List.mem_of_mem_take hq))
  rw [List.length_take]at hjl
  have hjl2:(joinS (p.take i)).length≤10100:=by omega
  have hj3:(joinS (p.take i)++[47]).length=(joinS (p.take i)).length+1:=by simp
  refine W.skip ?_
  refine xn ?_
  refine W.seq ?_
  refine W.block ?_
  refine W.seq ?_
  refine W.r fun K hK=>?_
  simp(disch:=omega)only[↓RU,RV,RH,↓reduceIte,qE,reduceCtorEq,if_pos,w64,↓RS,RG,qA,qM,qL,zaa]
  apply hK;clear hK K
  refine W.cond rfl (fun h1=>?_) (fun h1=>?_)
  ·try simp only[RL]at h1
   refine W.k fun K hK=>?_
   simp(disch:=omega)only[↓RU,RV,RH,↓reduceIte,qE,reduceCtorEq,if_pos,w64,↓RS,RG,qA,qM,qL,zab,zdc]
   apply hK;clear hK K
   refine xn ?_
   refine W.k fun K hK=>?_
   simp(disch:=omega)only[↓RU,RV,RH,↓reduceIte,qE,reduceCtorEq,if_pos,w64,↓RS,RG,qA,qM,qL,ty4,zab,hx,zdc]
   apply hK;clear hK K
   refine XbN ?_
   refine xn ?_
   refine W.k fun K hK=>?_
   simp(disch:=omega)only[↓RU,RV,RH,↓reduceIte,qE,reduceCtorEq,if_pos,w64,↓RS,RG,qA,qM,qL,zaa]
   apply hK;clear hK K
   refine xn ?_
   refine ⟨p.length - (i+1),by omega,0,i+1,rfl,by omega,?_,rfl⟩
   rw [ztp hx,if_neg (by omega)]
   simp [Env.put,Env.of]
  try simp only[RL]at h1
  refine W.skip ?_
  refine xn ?_
  refine W.k fun K hK=>?_
  simp(disch:=omega)only[↓RU,RV,RH,↓reduceIte,qE,reduceCtorEq,if_pos,w64,↓RS,RG,qA,qM,qL,ty4,zab,hx,zdc]
  apply hK;clear hK K
  refine XbN ?_
  refine xn ?_
  refine W.k fun K hK=>?_
  simp(disch:=omega)only[↓RU,RV,RH,↓reduceIte,qE,reduceCtorEq,if_pos,w64,↓RS,RG,qA,qM,qL,zaa]
  apply hK;clear hK K
  refine xn ?_
  refine ⟨p.length - (i+1),by omega,0,i+1,rfl,by omega,?_,rfl⟩
  rw [ztp hx,if_pos (by omega)]
  obtain rfl:i=0:=by omega
  simp [Env.put,Env.of,joinS]
 try simp only[RL]at h0
 obtain rfl:i=p.length:=by omega
 rw [List.take_length]
 refine W.exit ?_
 refine xe ?_
 refine xe ?_
 refine XBlock.hit ?_
 refine xn ?_
 refine W.r fun K hK=>?_
 simp(disch:=omega)only[↓RU,RV,RH,↓reduceIte,qE,reduceCtorEq,if_pos,↓RS,RG,qA,qM,qL]
 apply hK;clear hK K
 refine W.ret ?_
 refine Br rfl ?_
 rfl
theorem z62 (s:Txt):PC Tryz.prog 76 [.str s] (.str s) true:=by
 refine PC.of ⟨Tryz.func76,by kernel_rfl,rfl,by kernel_rfl⟩ zao mixed (by show 1≤Tryz.f76.ntmps; decide) ?_
 refine W.r fun K hK=>?_
 simp(disch:=omega)only[↓RU,RV,RH,↓reduceIte,qE,reduceCtorEq,if_pos]
 apply hK;clear hK K
 refine W.r fun K hK=>?_
 simp(disch:=omega)only[↓RU,RV,RH,↓reduceIte,qE,reduceCtorEq,if_pos]
 apply hK;clear hK K
 refine W.ret ?_
 refine Br rfl ?_
 rfl
theorem z9n {f:FuncId} {p:List Txt} {b:PV} {c r:Txt} (hf:PC Tryz.prog f [zai p] (.tup [.str r,.bool true]) true):PC Tryz.prog 166 [.ip [zai p,b] 0,.str c,.ip [.fn f []] 0,.ip [.fn 76 []] 0] (.tup [.str r,.bool true]) true:=by
 refine PC.of ⟨Tryz.func166,by kernel_rfl,rfl,by kernel_rfl⟩ zao mixed (by show 4≤Tryz.f166.ntmps; decide) ?_
 refine W.r fun K hK=>?_
 simp(disch:=omega)only[↓RU,RV,RH,↓reduceIte,qE,reduceCtorEq,if_pos,↓RS,RG,qA,qM,qL]
 apply hK;clear hK K
 refine W.seq_draw (by kernel_rfl) fun K hK=>?_
 simp(disch:=omega)only[↓RU,RV,RH,↓reduceIte,qE,reduceCtorEq,if_pos,qN,↓RS,RG,qA,qM,qL,ty4,yf5,ydt,zab,ydu,Int.toNat_zero,List.getElem?_cons_zero]
 refine zac.pc (hf) rfl (.inl rfl) ?_
 simp(disch:=omega)only[↓RU,RV,RH,↓reduceIte,qE,reduceCtorEq,if_pos,qN,↓RS,RG,qA,qM,qL,ty4,yf5,ydt,zab,ydu,Int.toNat_zero,List.getElem?_cons_zero]
 apply hK;clear hK K
 refine W.r fun K hK=>?_
 simp(disch:=omega)only[↓RU,RV,RH,↓reduceIte,qE,reduceCtorEq,if_pos,qN,↓RS,RG,qA,qM,qL,yf6,Int.toNat_zero,List.getElem?_cons_zero]
 refine zac.pc (z62 r) rfl (.inl rfl) ?_
 simp(disch:=omega)only[↓RU,RV,RH,↓reduceIte,qE,reduceCtorEq,if_pos,qN,↓RS,RG,qA,qM,qL,yf6,Int.toNat_zero,List.getElem?_cons_zero]
 apply hK;clear hK K
 refine W.ret ?_
 refine Br rfl ?_
 rfl
section
open Go Go.RowKit
set_option maxHeartbeats 1000000 in
set_option maxRecDepth 100000 in
theorem zuu (s:ByteArray) (w:World) :
  Calls Tryz.prog 251 #[.string s,.string ⟨#[47]⟩] w fun e w'=>e = .returned (.int .i64 ((s.data.toList.count 47:Nat):Int))∧w'=w:=by
 go_enter Tryz.func251,Tryz.ntmps251
 go_wp2
 rw [run_callFunc_extern Tryz.func289 (by kernel_rfl) (by kernel_rfl) (by kernel_rfl) (e:=Extern.BytealgCount.count) (by kernel_rfl)]
 rw [Lib.run_countString]
 simp only[Result.andThen]
 rw [Oper.upon_value]
 go_wp2
 go_ret
 exact ⟨rfl,rfl⟩
theorem z29 (s:List UInt8):PC Tryz.prog 251 [.str s,.str [47]] (.int .i64 ((s.count 47:Nat):Int)) true:=by
 refine ⟨(⟨Tryz.func251,by kernel_rfl,rfl,by kernel_rfl⟩:Fn Tryz.prog 251 _ _).ent,fun F w cargs hF hl hv=>?_⟩
 obtain ⟨cs⟩:=cargs
 match cs,hl,hv with
 | [c0,c1],_,hv =>
  have h0:=hv 0 _ _ rfl rfl
  have h1:=hv 1 _ _ rfl rfl
  cases h0 with
  | str _ b0 e0 =>
   cases h1 with
   | str _ b1 e1 =>
    have hb:b1=⟨#[47]⟩:=by
     obtain ⟨d⟩:=b1
     congr 1
     exact Array.toList_inj.1 e1
    subst hb
    refine (zuu b0 w).mono ?_
    rintro e w' ⟨rfl,rfl⟩
    exact ⟨_,rfl,⟨RowKit.Below.refl _ _,qR _⟩,by rw [e0]; exact .int _ _⟩
end
theorem z3i {p:List Txt} (h:p≠[]) (hs:∀ r∈p,(47:UInt8) ∉ r):p.length≤(joinS p).length+1:=by
 have h1:=zlj h hs
 have h2:=List.count_le_length (a:=(47:UInt8)) (l:=joinS p)
 omega
theorem z87 {p:List Txt} {i:Nat} (h:i+1<p.length):∃ a r,p.drop i=a::r∧r≠[]∧p[i]?=some a∧r=p.drop (i+1):=by
 refine ⟨p[i],p.drop (i+1),List.drop_eq_getElem_cons (by omega),fun e=>?_,List.getElem?_eq_getElem (by omega),rfl⟩
 have:=congrArg List.length e
 rw [List.length_drop,List.length_nil]at this
 omega
theorem z86 {p:List Txt} {i:Nat} (h:i+1=p.length):∃ a,p.drop i=[a]∧p[i]?=some a:=by
 refine ⟨p[i],?_,List.getElem?_eq_getElem (by omega)⟩
 rw [List.drop_eq_getElem_cons (by omega),List.drop_eq_nil_of_le (by omega)]
def fil (p:List Txt) (i:Nat):List Txt:=p.take i++List.replicate (p.length - i) []
theorem z5g {p:List Txt} {i:Nat} (h:i≤p.length):(fil p i).length=p.length:=by simp [fil]; omega
theorem z5h {p:List Txt} {i:Nat} {a:Txt} (h:p[i]?=some a):(fil p i).set i a=fil p (i+1):=by
 have hl:=(List.getElem?_eq_some_iff.1 h).1
 unfold fil
 rw [tk h,List.set_append,if_neg (by rw [List.length_take]; omega),List.length_take,show i - min i p.length=0 by omega,show p.length - i=(p.length - (i+1))+1 by omega,List.replicate_succ,List.set_cons_zero,List.append_assoc]
 rfl
theorem z7x {l:List Txt} {i:Nat} {x:Txt}:(l.map PV.str).set i (.str x)=(l.set i x).map .str:=by simp
theorem yci {p:List Txt}:fil p p.length=p:=by simp [fil]
theorem z9e (s:Txt) (c:UInt8):PC Tryz.prog 252 [.str s,.str [c]] (.int .i64 (Lib.indexByte s c)) true:=by
 refine PC.of ⟨Tryz.func252,by kernel_rfl,rfl,by kernel_rfl⟩ zao mixed (by show 2≤Tryz.f252.ntmps; decide) ?_
 refine W.r fun K hK=>?_
 simp(disch:=omega)only[↓RU,RV,RH,↓reduceIte,qE,reduceCtorEq,if_pos]
 apply hK;clear hK K
 refine W.r fun K hK=>?_
 simp(disch:=omega)only[↓RU,RV,RH,↓reduceIte,qE,reduceCtorEq,if_pos,qN]
 refine zac.pc (zw6 s c) rfl (.inl rfl) ?_
 simp(disch:=omega)only[↓RU,RV,RH,↓reduceIte,qE,reduceCtorEq,if_pos,qN]
 apply hK;clear hK K
 refine W.ret ?_
 refine Br rfl ?_
 rfl
theorem zzp {p:List Txt} {m:Nat} (hm:m+1=p.length) (hn:p.length≤100) (hr:∀ r∈p,r.length≤100) (hs:∀ r∈p,(47:UInt8) ∉ r):PN Tryz.prog 184 [.str (joinS p),.str [47],.int .i64 0,.int .i64 (-1)] (.loc 0 0 0 p.length) [.arr 0 9 1 (p.map .str)] false:=by
 have hp0:p≠[]:=by rintro rfl; simp at hm
 have hjl:=zqw hr
 have hlo:=z3i hp0 hs
 have hcc:=zlj hp0 hs
 have hc:(((joinS p).count 47:Nat):Int)=(m:Int):=by rw [hcc]; omega
 have m10:((-1:Int) == 0)=false:=rfl
 have sne:(([47]:Txt) == [])=false:=rfl
 have hmn:min ((m:Int)+1) (((joinS p).length:Int)+1)=(p.length:Int):=by omega
 refine PN.of ⟨Tryz.func184,by kernel_rfl,rfl,by kernel_rfl⟩ zao mixed (by show 4≤Tryz.f184.ntmps; decide) ?_
 refine W.r fun K hK=>?_
 simp(disch:=omega)only[↓RU,RV,RH,↓reduceIte,qE,reduceCtorEq,if_pos,↓RS,RG,qA,qM,qL]
 apply hK;clear hK K
 refine W.seq ?_
 refine W.r fun K hK=>?_
 simp(disch:=omega)only[↓RU,RV,RH,↓reduceIte,qE,reduceCtorEq,if_pos,w64,↓RS,RG,qA,qM,qL,zaa,m10]
 apply hK;clear hK K
 refine W.cond rfl (fun h0=>?_) (fun h0=>?_)
 ·try simp only[RL]at h0
  exact absurd h0 (by simp)
 try simp only[RL]at h0
 refine W.skip ?_
 refine xn ?_
 refine W.seq ?_
 refine W.r fun K hK=>?_
 simp(disch:=omega)only[↓RU,RV,RH,↓reduceIte,qE,reduceCtorEq,if_pos,w64,↓RS,RG,qA,qM,qL,zab,zn9,sne]
 apply hK;clear hK K
 refine W.cond rfl (fun h1=>?_) (fun h1=>?_)
 ·try simp only[RL]at h1
  exact absurd h1 (by simp)
 try simp only[RL]at h1
 refine W.skip ?_
 refine xn ?_
 refine W.seq ?_
 refine W.r fun K hK=>?_
 simp(disch:=omega)only[↓RU,RV,RH,↓reduceIte,qE,reduceCtorEq,if_pos,w64,↓RS,RG,qA,qM,qL,zaa]
 apply hK;clear hK K
 refine W.cond rfl (fun h2=>?_) (fun h2=>?_)
 ·try simp only[RL]at h2
  refine W.k fun K hK=>?_
  simp(disch:=omega)only[↓RU,RV,RH,↓reduceIte,qE,reduceCtorEq,if_pos,qN,w64,↓RS,RG,qA,qM,qL,zaa,hc]
  refine zac.pc (z29 (joinS p)) rfl (.inl rfl) ?_
  simp(disch:=omega)only[↓RU,RV,RH,↓reduceIte,qE,reduceCtorEq,if_pos,qN,w64,↓RS,RG,qA,qM,qL,zaa,hc]
  apply hK;clear hK K
  refine xn ?_
  refine W.r fun K hK=>?_
  simp(disch:=omega)only[↓RU,RV,RH,↓reduceIte,qE,reduceCtorEq,if_pos,w64,zqv,↓RS,RG,qA,qM,qL,zaa,zab,zqv]
  apply hK;clear hK K
  refine W.r fun K hK=>?_
  simp(disch:=omega)only[↓RU,RV,RH,↓reduceIte,qE,reduceCtorEq,if_pos,↓RS,RG,qA,qM,qL,ty4,zab,hmn,zhr,zhm]
  apply hK;clear hK K
  refine W.r fun K hK=>?_
  simp(disch:=omega)only[↓RU,RV,RH,↓reduceIte,qE,reduceCtorEq,if_pos,w64,↓RS,RG,qA,qM,qL,zaa]
  apply hK;clear hK K
  refine W.r fun K hK=>?_
  simp(disch:=omega)only[↓RU,RV,RH,↓reduceIte,qE,reduceCtorEq,if_pos,↓RS,RG,qA,qM,qL]
  apply hK;clear hK K
  refine W.seq ?_
  refine W.block ?_
  refine W.loop [0,1,2,3,9,10] (fun n vs S=>∃ i v tk:Nat,n=m - i∧i≤m∧vs=[.str (joinS (p.drop i)),.str [47],.int .i64 0,.int .i64 m,.loc 0 v 0 p.length,.int .i64 i]∧S=⟨[.arr v 9 1 ((fil p i).map .str)],tk⟩) m ?_ ?_
  ·refine ⟨1,0,0,1,rfl,Nat.zero_le _,?_,?_⟩
   ·simp [Env.put,Env.of,zag]; omega
   simp [fil,zbl]
  rintro n vs S - ⟨i,v,tk,rfl,h_i,rfl,rfl⟩
  refine W.seq ?_
  refine W.r fun K hK=>?_
  simp(disch:=omega)only[↓RU,RV,RH,↓reduceIte,qE,reduceCtorEq,if_pos,w64,↓RS,RG,qA,qM,qL,zaa]
  apply hK;clear hK K
  refine W.cond rfl (fun h3=>?_) (fun h3=>?_)
  ·try simp only[RL]at h3
   obtain ⟨a,r,hd,hrn,ha,hrd⟩:=z87 (show i+1<p.length by omega)
   have h47:=hs a (List.mem_of_getElem? ha)
   obtain ⟨j1,j2,j3⟩:=z55 hrn h47
   have hfl:=z5g (p:=p) (i:=i) (by omega)
   have hal:=hr a (List.mem_of_getElem? ha)
   have hle:a.length+1≤(joinS (a::r)).length:=by rw [zkb hrn,List.length_append,List.length_cons]; omega
   have tn1:((a.length:Int)+((1:Nat):Int)).toNat=a.length+1:=by omega
   have hfs:=z5h ha
   rw [hd]
   refine W.skip ?_
   refine xn ?_
   refine W.block ?_
   refine W.r fun K hK=>?_
   simp(disch:=omega)only[↓RU,RV,RH,↓reduceIte,qE,reduceCtorEq,if_pos,qN,↓RS,RG,qA,qM,qL,j1]
   refine zac.pc (z9e _ _) rfl (.inl rfl) ?_
   simp(disch:=omega)only[↓RU,RV,RH,↓reduceIte,qE,reduceCtorEq,if_pos,qN,↓RS,RG,qA,qM,qL,j1]
   apply hK;clear hK K
   refine W.seq ?_
   refine W.r fun K hK=>?_
   simp(disch:=omega)only[↓RU,RV,RH,↓reduceIte,qE,reduceCtorEq,if_pos,w64,↓RS,RG,qA,qM,qL,zaa]
   apply hK;clear hK K
   refine W.cond rfl (fun h4=>?_) (fun h4=>?_)
   ·try simp only[RL]at h4
    exfalso; omega
   try simp only[RL]at h4
   refine W.skip ?_
   refine xn ?_
   refine W.r fun K hK=>?_
   simp(disch:=omega)only[↓RU,RV,RH,↓reduceIte,qE,reduceCtorEq,if_pos,w64,Option.map_none,↓RS,RG,qA,qM,qL,ty4,zaa,zab,Int.add_zero,Int.toNat_natCast,List.drop_zero,j2,hfl,zc6,z7x,hfs]
   apply hK;clear hK K
   refine W.r fun K hK=>?_
   simp(disch:=omega)only[↓RU,RV,RH,↓reduceIte,qE,reduceCtorEq,if_pos,w64,Option.map_none,↓RS,RG,qA,qM,qL,zaa,zab,tn1,List.take_length,j3]
   apply hK;clear hK K
   refine W.k fun K hK=>?_
   simp(disch:=omega)only[↓RU,RV,RH,↓reduceIte,qE,reduceCtorEq,if_pos,w64,↓RS,RG,qA,qM,qL,zaa]
   apply hK;clear hK K
   refine XbN ?_
   refine xn ?_
   refine ⟨m - (i+1),by omega,1,i+1,v,tk,rfl,by omega,?_,rfl⟩
   rw [← hrd]
   simp [Env.put,Env.of]
  try simp only[RL]at h3
  obtain rfl:i=m:=by omega
  obtain ⟨a,hd,ha⟩:=z86 hm
  have hfl:=z5g (p:=p) (i:=i) (by omega)
  have hfs:=z5h ha
  rw [hd,show joinS [a]=a from rfl]
  refine W.exit ?_
  refine xe ?_
  refine xe ?_
  refine XBlock.hit ?_
  refine xn ?_
  refine W.r fun K hK=>?_
  simp(disch:=omega)only[↓RU,RV,RH,↓reduceIte,qE,reduceCtorEq,if_pos,↓RS,RG,qA,qM,qL,ty4,zab,hfl,zc6,z7x,hfs]
  apply hK;clear hK K
  refine W.r fun K hK=>?_
  simp(disch:=omega)only[↓RU,RV,RH,↓reduceIte,qE,reduceCtorEq,if_pos,w64,Option.map_none,↓RS,RG,qA,qM,qL,ty4,zaa,zab]
  apply hK;clear hK K
  refine W.ret ?_
  refine Br rfl ?_
  rw [show fil p (i+1)=p by rw [hm,yci],← hm]
  exact z7y rfl (zrv _)
 try simp only[RL]at h2
 exact absurd h2 (by simp)
theorem yad {p:List Txt} {m:Nat} (hm:m+1=p.length) (hn:p.length≤100) (hr:∀ r∈p,r.length≤100) (hs:∀ r∈p,(47:UInt8) ∉ r):PN Tryz.prog 89 [.str (joinS p),.str [47]] (.loc 0 0 0 p.length) [.arr 0 9 1 (p.map .str)] false:=by
 refine PN.of ⟨Tryz.func89,by kernel_rfl,rfl,by kernel_rfl⟩ zao mixed (by show 2≤Tryz.f89.ntmps; decide) ?_
 refine W.r fun K hK=>?_
 simp(disch:=omega)only[↓RU,RV,RH,↓reduceIte,qE,reduceCtorEq,if_pos,↓RS,RG,qA,qM,qL]
 apply hK;clear hK K
 refine W.r fun K hK=>?_
 simp(disch:=omega)only[↓RU,RV,RH,↓reduceIte,qE,reduceCtorEq,if_pos,qN,↓RS,RG,qA,qM,qL]
 refine zac.pn (zzp hm hn hr hs) rfl (.inr rfl) ?_
 simp(disch:=omega)only[↓RU,RV,RH,↓reduceIte,qE,reduceCtorEq,if_pos,qN,↓RS,RG,qA,qM,qL,RN]
 apply hK;clear hK K
 refine W.ret ?_
 refine Br rfl ?_
 exact z7y rfl (zrv _)
theorem z5k {p:List Txt} (h:zd9 p=true):okB p=true∧zlg (zbm p)=true∧zeh (gP p)=p:=by
 unfold zd9 at h
 rw [qB]at h
 obtain ⟨h1,h2⟩:=h
 unfold znz at h2
 rw [qB]at h2
 exact ⟨h1,h2.1,by simpa using h2.2⟩
theorem z7z {S:Store} {im:Bool} {v et n:Nat} {b:Bool} {cells:List PV} (hS:S.obs=[.arr v et 1 cells]) (hc:cells.mapM (sh (S.take 1) im 10)=some cells):∃ k,sh (S.take k) im 10 (.tup [.loc 0 v 0 n,.bool b])=some (.tup [.loc 0 0 0 n,.bool b])∧zmo (S.take k) im (S.take k).obs=some [.arr 0 et 1 cells]:=by
 refine ⟨1,?_,?_⟩
 ·simp [sh,Store.take,hS]
 simp only[Store.take,hS]at hc ⊢
 simp only[List.take_succ_cons,List.take_zero]at hc ⊢
 simp only[zmo,z2t,hc]
 rfl
theorem zz7 {S:Store} {o v n f:Nat} {l:List Txt} (h:S.obs[o]?=some (.arr v 9 1 (l.map .str))) (hn:n=l.length):reify S true (f+2) (.loc o v 0 n)=some (zai l):=by
 subst hn
 exact (zci (k:=f+1) h (by simp) (zgq _)).trans rfl
theorem ydj {g:List (List Int)} {nh nw:Nat} (hg:GW g nh nw) (rs:List Rect) (hz:∀ r∈g,∀ z∈r,0≤z∧z≤100):PN Tryz.prog 35 [zaw g rs] (.loc 0 0 0 nh) [.arr 0 9 1 ((zeh g).map .str)] false:=by
 have hl:=hg.1
 obtain ⟨hg1,hg2,hg3,hg4⟩:=hg.2.2
 refine PN.of ⟨Tryz.func35,by kernel_rfl,rfl,by kernel_rfl⟩ zao mixed (by show 1≤Tryz.f35.ntmps; decide) ?_
 refine W.r fun K hK=>?_
 simp(disch:=omega)only[↓RU,RV,RH,↓reduceIte,qE,reduceCtorEq,if_pos,↓RS,RG,qA,qM,qL]
 apply hK;clear hK K
 refine W.r fun K hK=>?_
 simp(disch:=omega)only[↓RU,RV,RH,↓reduceIte,qE,reduceCtorEq,if_pos,qN,↓RS,RG,qA,qM,qL,ty4,zab,hl,ze9,zhr,zhm]
 refine zac.pc (zqo g rs) rfl (.inl rfl) ?_
 simp(disch:=omega)only[↓RU,RV,RH,↓reduceIte,qE,reduceCtorEq,if_pos,qN,↓RS,RG,qA,qM,qL,ty4,zab,hl,ze9,zhr,zhm]
 apply hK;clear hK K
 refine W.seq ?_
 refine W.r fun K hK=>?_
 simp(disch:=omega)only[↓RU,RV,RH,↓reduceIte,qE,reduceCtorEq,if_pos,↓RS,RG,qA,qM,qL,ty1,ty3,zae,zgz,zc9,zap,zaa,zg0,zaq,hl]
 apply hK;clear hK K
 refine W.block ?_
 refine W.loop [0,3,15,16,17] (fun n vs S=>∃ (i vo t:Nat) (o:List Txt),n=nh - i∧i≤nh∧o.length=nh∧(∀ j,j<i→o[j]?=(zeh g)[j]?)∧vs=[zaw g rs,.loc 0 vo 0 nh,zdz g,.int .i64 nh,.int .i64 (i:Nat)]∧S=⟨[.arr vo 9 1 (o.map .str)],t⟩) nh ?_ ?_
 ·refine ⟨1,0,0,1,List.replicate nh [],rfl,Nat.zero_le _,by simp,fun j h=>absurd h (by omega),?_,?_⟩
  ·simp [Env.put,Env.of,zag,hl]
  simp [zbl,zhr]
 rintro n vs S - ⟨i,vo,t,o,rfl,h_i,hol,hdone,rfl,rfl⟩
 refine W.r fun K hK=>?_
 simp(disch:=omega)only[↓RU,RV,RH,↓reduceIte,qE,reduceCtorEq,if_pos,w64,↓RS,RG,qA,qM,qL,zaa]
 apply hK;clear hK K
 refine W.seq ?_
 refine W.cond rfl (fun h=>?_) (fun h=>?_)
 ·try simp only[RL]at h
  obtain ⟨row,hrow,hrm⟩:=zaf (show i<g.length by omega)
  have hrl:=hg.2.1 row hrm
  have hrz:=hz row hrm
  refine W.skip ?_
  refine xn ?_
  refine W.seq ?_
  refine W.block ?_
  refine W.r fun K hK=>?_
  simp(disch:=omega)only[↓RU,RV,RH,↓reduceIte,qE,reduceCtorEq,if_pos,↓RS,RG,qA,qM,qL,ty1,zae,zc9,zaa,hrow]
  apply hK;clear hK K
  refine W.r fun K hK=>?_
  simp(disch:=omega)only[↓RU,RV,RH,↓reduceIte,qE,reduceCtorEq,if_pos,↓RS,RG,qA,qM,qL,ty5,ty7,z8m,z8n,zdw]
  apply hK;clear hK K
  refine W.seq ?_
  refine W.r fun K hK=>?_
  simp(disch:=omega)only[↓RU,RV,RH,↓reduceIte,qE,reduceCtorEq,if_pos,↓RS,RG,qA,qM,qL,zae,zaa,hrl]
  apply hK;clear hK K
  refine W.block ?_
  refine W.loop [0,3,15,16,17,4,6,22,23,24] (fun n vs S=>∃ (k vb vq t:Nat),n=nw - k∧k≤nw∧vs=[zaw g rs,.loc 0 vo 0 nh,zdz g,.int .i64 nh,.int .i64 (i:Nat),.int .i64 (i:Nat),.ref 1 vb 0,eInts row,.int .i64 nw,.int .i64 (k:Nat)]∧S=stB o vo vb (zom (row.take k)) vq t) nw ?_ ?_
  ·refine ⟨2,0,_,0,_,rfl,Nat.zero_le _,?_,rfl⟩
   simp [Env.put,Env.of,hrl]
  rintro n vs S - ⟨k,vb,vq,t,rfl,h_k,rfl,rfl⟩
  refine W.r fun K hK=>?_
  simp(disch:=omega)only[↓RU,RV,RH,↓reduceIte,qE,reduceCtorEq,if_pos,w64,↓RS,RG,qA,qM,qL,zaa]
  apply hK;clear hK K
  refine W.seq ?_
  refine W.cond rfl (fun h1=>?_) (fun h1=>?_)
  ·try simp only[RL]at h1
   obtain ⟨z,hzk,hzm⟩:=zaf (show k<row.length by omega)
   have hzb:=hrz z hzm
   have hul:=ybz hzb.1
   refine W.skip ?_
   refine xn ?_
   refine W.seq ?_
   refine W.block ?_
   refine W.r fun K hK=>?_
   simp(disch:=omega)only[↓RU,RV,RH,↓reduceIte,qE,reduceCtorEq,if_pos,↓RS,RG,qA,qM,qL,zae,zaa,hzk]
   apply hK;clear hK K
   refine W.k fun K hK=>?_
   simp(disch:=omega)only[↓RU,RV,RH,↓reduceIte,qE,reduceCtorEq,if_pos,w64,w64,qN,↓RS,RG,qA,qM,qL,zaa,zdw,hul]
   refine zac.ev (zog (by rw [zvr,List.length_take]; omega) (z4l z)) ?_
   rintro _ _ ⟨rfl,vq2,t2,rfl⟩
   simp(disch:=omega)only[↓RU,RV,RH,↓reduceIte,qE,reduceCtorEq,if_pos,w64,w64,qN,↓RS,RG,qA,qM,qL,zaa,zdw,hul]
   apply hK;clear hK K
   refine XbN ?_
   refine xn ?_
   refine W.k fun K hK=>?_
   simp(disch:=omega)only[↓RU,RV,RH,↓reduceIte,qE,reduceCtorEq,if_pos,w64,↓RS,RG,qA,qM,qL,zaa]
   apply hK;clear hK K
   refine xn ?_
   refine ⟨nw - (k+1),by omega,_,k+1,vb,vq2,t2,rfl,by omega,?_,by rw [zyh hzk]; exact zat⟩
   simp [Env.put,Env.of]
  try simp only[RL]at h1
  obtain rfl:nw=k:=by omega
  refine W.exit ?_
  refine xe ?_
  refine xe ?_
  refine XBlock.hit ?_
  refine xn ?_
  refine W.k fun K hK=>?_
  have htk:row.take nw=row:=qT (by omega)
  rw [htk]
  have hne:=z7n (row:=row) (by omega)
  simp(disch:=omega)only[↓RU,RV,RH,↓reduceIte,qE,reduceCtorEq,if_pos,qN,↓RS,RG,qA,qM,qL,ty4,zab,hol,zc6,zrs]
  refine zac.ev (zs3 hne) ?_
  rintro _ _ ⟨rfl,rfl⟩
  simp(disch:=omega)only[↓RU,RV,RH,↓reduceIte,qE,reduceCtorEq,if_pos,qN,↓RS,RG,qA,qM,qL,ty4,zab,hol,zc6,zrs]
  apply hK;clear hK K
  refine XbN ?_
  refine xn ?_
  refine W.k fun K hK=>?_
  simp(disch:=omega)only[↓RU,RV,RH,↓reduceIte,qE,reduceCtorEq,if_pos,w64,↓RS,RG,qA,qM,qL,zaa]
  apply hK;clear hK K
  refine xn ?_
  refine ⟨nh - (i+1),by omega,1,i+1,vo,t,o.set i (zom row),rfl,by omega,by simp [hol],?_,?_,?_⟩
  ·intro j hj
   by_cases e:j=i
   ·subst e; rw [zkp hrow,List.getElem?_set,if_pos rfl,if_pos (by omega)]
   rw [List.getElem?_set,if_neg (Ne.symm e)]; exact hdone j (by omega)
  ·simp [Env.put,Env.of]
  simp [zbl]
 try simp only[RL]at h
 obtain rfl:nh=i:=by omega
 refine W.exit ?_
 refine xe ?_
 refine xe ?_
 refine XBlock.hit ?_
 refine xn ?_
 refine W.r fun K hK=>?_
 simp(disch:=omega)only[↓RU,RV,RH,↓reduceIte,qE,reduceCtorEq,if_pos,↓RS,RG,qA,qM,qL]
 apply hK;clear hK K
 refine W.ret ?_
 refine Br rfl ?_
 have hdo:=zyx (by omega) (fun j hj=>hdone j (by omega))
 subst hdo
 exact z7y rfl (zrv _)
theorem zzy {p:List Txt} (hs:Sm p) (h:zd9 p=true):PN Tryz.prog 88 [zai p] (.tup [.loc 0 0 0 p.length,.bool true]) [.arr 0 9 1 (p.map .str)] false:=by
 obtain ⟨h1,h2,h3⟩:=z5k h
 have hg:=z1x h1
 have hz:=zxk h1
 have hT:=ydj hg (rP p) hz
 rw [h3]at hT
 refine PN.of ⟨Tryz.func88,by kernel_rfl,rfl,by kernel_rfl⟩ zao mixed (by show 1≤Tryz.f88.ntmps; decide) ?_
 refine W.r fun K hK=>?_
 simp(disch:=omega)only[↓RU,RV,RH,↓reduceIte,qE,reduceCtorEq,if_pos,↓RS,RG,qA,qM,qL]
 apply hK;clear hK K
 refine W.r fun K hK=>?_
 simp(disch:=omega)only[↓RU,RV,RH,↓reduceIte,qE,reduceCtorEq,if_pos,qN,↓RS,RG,qA,qM,qL]
 refine zac.pc (z2j hs h1) rfl (.inr rfl) ?_
 simp(disch:=omega)only[↓RU,RV,RH,↓reduceIte,qE,reduceCtorEq,if_pos,qN,↓RS,RG,qA,qM,qL]
 apply hK;clear hK K
 refine W.seq ?_
 refine W.r fun K hK=>?_
 simp(disch:=omega)only[↓RU,RV,RH,↓reduceIte,qE,reduceCtorEq,if_pos,↓RS,RG,qA,qM,qL,h2]
 apply hK;clear hK K
 refine W.cond rfl (fun h0=>?_) (fun h0=>?_)
 ·try simp only[RL]at h0
  exact absurd h0 (by simp)
 try simp only[RL]at h0
 refine W.skip ?_
 refine xn ?_
 refine W.r fun K hK=>?_
 simp(disch:=omega)only[↓RU,RV,RH,↓reduceIte,qE,reduceCtorEq,if_pos,qN,↓RS,RG,qA,qM,qL]
 refine zac.pn (hT) rfl (.inr rfl) ?_
 simp(disch:=omega)only[↓RU,RV,RH,↓reduceIte,qE,reduceCtorEq,if_pos,qN,↓RS,RG,qA,qM,qL,RN]
 apply hK;clear hK K
 refine W.ret ?_
 refine Br rfl ?_
 exact z7z rfl (zrv _)
theorem z6c {p:List Txt} {m:Nat} (hm:m+1=p.length) (hn:p.length≤100) (hr:∀ r∈p,r.length≤100) (hs47:∀ r∈p,(47:UInt8) ∉ r) (hs:Sm p) (h:zd9 p=true) (b:PV):PN Tryz.prog 87 [b,.str (joinS p)] (.tup [.loc 0 0 0 p.length,.bool true]) [.arr 0 9 1 (p.map .str)] false:=by
 refine PN.of ⟨Tryz.func87,by kernel_rfl,rfl,by kernel_rfl⟩ zao mixed (by show 2≤Tryz.f87.ntmps; decide) ?_
 refine W.r fun K hK=>?_
 simp(disch:=omega)only[↓RU,RV,RH,↓reduceIte,qE,reduceCtorEq,if_pos,↓RS,RG,qA,qM,qL]
 apply hK;clear hK K
 refine W.joinS [4,5] (fun vs S=>∃ v t:Nat,vs=[.loc 0 v 0 p.length,.bool true]∧S=⟨[.arr v 9 1 (p.map .str)],t⟩) ?_ ?_
 ·
  refine W.k fun K hK=>?_
  simp(disch:=omega)only[↓RU,RV,RH,↓reduceIte,qE,reduceCtorEq,if_pos,qN,↓RS,RG,qA,qM,qL]
  refine zac.pn (yad hm hn hr hs47) rfl (.inr rfl) ?_
  simp(disch:=omega)only[↓RU,RV,RH,↓reduceIte,qE,reduceCtorEq,if_pos,qN,↓RS,RG,qA,qM,qL,RN]
  refine zac.pn (zzy hs h) (za0 (zz7 rfl rfl) rfl) (.inl rfl) ?_
  simp(disch:=omega)only[↓RU,RV,RH,↓reduceIte,qE,reduceCtorEq,if_pos,qN,↓RS,RG,qA,qM,qL,RN]
  apply hK;clear hK K
  refine xn ?_
  refine ⟨0,[1],[.loc 0 2 0 p.length,.bool true],⟨[.arr 2 9 1 (p.map .str)],3⟩,?_,?_,2,3,rfl,rfl⟩
  ·simp [-qU,Env.put,Env.of,zag,zcm,zar,zax,zba,zbb,zcr,zcs,zef,zcq,zbw,zct,zee,zeg,zby,zbx,zbc,zcp,zcu,zed,zbu,zbt,za9,zbv,zco,zih,qS,qP,qC]
  simp [-qU,Env.put,Env.of,zag,zcm,zar,zax,zba,zbb,zcr,zcs,zef,zcq,zbw,zct,zee,zeg,zby,zbx,zbc,zcp,zcu,zed,zbu,zbt,za9,zbv,zco,zih,qS,qP,qC,zz9]
 rintro vs S - ⟨v,t,rfl,rfl⟩
 refine W.ret ?_
 refine Br rfl ?_
 exact z7z rfl (zrv _)
theorem zza {f:FuncId} {p q p2:List Txt} {c:Txt} {vb t:Nat} (hf:PN Tryz.prog f [.ip [zai p,zai q] 0,.str c] (.tup [.loc 0 0 0 p2.length,.bool true]) [.arr 0 9 1 (p2.map .str)] false):Ev Tryz.prog 153 [.ref 0 vb 0,.str c,.ip [.fn f []] 0] ⟨[.arr vb 50 2 [zai p,zai q]],t⟩ fun v S=>v = .tup [.str [111,107],.bool true]∧∃ t2,S=⟨[.arr vb 50 2 [.loc 1 t 0 p2.length,zai q],.arr t 9 1 (p2.map .str)],t2⟩:=by
 refine Ev.of ⟨Tryz.func153,by kernel_rfl,rfl,by kernel_rfl⟩ zao mixed (by show 3≤Tryz.f153.ntmps; decide) ?_
 refine W.r fun K hK=>?_
 simp(disch:=omega)only[↓RU,RV,RH,↓reduceIte,qE,reduceCtorEq,if_pos,↓RS,RG,qA,qM,qL]
 apply hK;clear hK K
 refine W.r fun K hK=>?_
 simp(disch:=omega)only[↓RU,RV,RH,↓reduceIte,qE,reduceCtorEq,if_pos,qN,↓RS,RG,qA,qM,qL,yfa,Int.toNat_zero,List.getElem?_cons_zero]
 refine zac.pn (hf) (by simp [-qU,reify,Store.cellsOf,qC]) (.inl rfl) ?_
 simp(disch:=omega)only[↓RU,RV,RH,↓reduceIte,qE,reduceCtorEq,if_pos,qN,↓RS,RG,qA,qM,qL,yfa,Int.toNat_zero,List.getElem?_cons_zero,RN]
 apply hK;clear hK K
 refine W.seq ?_
 refine W.r fun K hK=>?_
 simp(disch:=omega)only[↓RU,RV,RH,↓reduceIte,qE,reduceCtorEq,if_pos,↓RS,RG,qA,qM,qL]
 apply hK;clear hK K
 refine W.cond rfl (fun h0=>?_) (fun h0=>?_)
 ·try simp only[RL]at h0
  refine W.k fun K hK=>?_
  simp(disch:=omega)only[↓RU,RV,RH,↓reduceIte,qE,reduceCtorEq,if_pos,↓RS,RG,qA,qM,qL,ty4,ydt,zab,ydu]
  apply hK;clear hK K
  refine xn ?_
  refine W.r fun K hK=>?_
  simp(disch:=omega)only[↓RU,RV,RH,↓reduceIte,qE,reduceCtorEq,if_pos,↓RS,RG,qA,qM,qL]
  apply hK;clear hK K
  refine W.ret ?_
  refine Br rfl ?_
  exact ⟨2,rfl,_,rfl⟩
 try simp only[RL]at h0
 exact absurd h0 (by simp)
def zol:List Txt:=[[97,97,98],[99,100,98],[99,101,101]]

section
theorem Ev.fz {P:Program} {f:FuncId} {args:List PV} {S:Store} {J J':PV→Store→Prop} (h:Ev P f args S J) (lo:Nat)
  (hJ:∀ v S1,J v S1→∃ v' S',frz S1 lo 10 v=some v'∧S1.frz lo=some S'∧J' v' S'):Ev P f args S J':=by
 refine ⟨h.ent,fun F G w cargs h1 h2 h3 h4=>(h.run F G w cargs h1 h2 h3 h4).mono ?_⟩
 rintro en w' ⟨v,cv,F',G',rfl,k1,k2,k3,k4⟩
 obtain ⟨v',S',j1,j2,j3⟩:=hJ _ _ k1
 obtain ⟨G2,rfl,i1,i2⟩:=z1n k2 j2
 exact ⟨v',cv,_,G2,rfl,j3,i1,k3.trans i2,zl0 k2 (fun _ h=>h) i2 k4 j1⟩
theorem PC.all {P:Program} {f:FuncId} {xs ts:List PV} {r:PV} {fr:Bool} {S:Store} (h:PC P f ts r fr) (h1:xs.mapM (rfz S 0 10)=some ts):Ev P f xs S fun v S'=>v=r∧S'=⟨[],S.tick⟩:=by
 refine ⟨h.ent,fun F G w cargs hS hi hl hv=>?_⟩
 subst hS
 obtain ⟨m1,m2⟩:=zbs _ _ h1
 have hF:∀ b,zoh F G 0 b→b<w.heap.size:=by
  rintro b (hb | ⟨o,x,-,hx,rfl⟩)
  ·exact hi.fr b hb
  exact hi.blk_lt hx
 refine (h.run (zoh F G 0) w cargs hF (by omega) fun i p c q1 q2=>?_).mono ?_
 ·obtain ⟨x,x1,x2⟩:=m2 i p q1
  exact zmg hi (hv i x c x1 q2) x2
 rintro e w' ⟨cv,rfl,⟨hb,hd⟩,hvi⟩
 refine ⟨r,cv,fun b=>zoh F G 0 b∨(w.heap.size≤b∧b<w'.heap.size),⟨[],G.tick⟩,rfl,⟨rfl,rfl⟩,⟨?_,by simp,by simp,by simp,by simp,by simp,by simp⟩,⟨hb.os,hb.tape,hb.output,hb.size,fun b hb => .inl (.inl hb),?_,by simp,qR _,fun b h2 _=>hb.block b h2,by simp,hd⟩,.imm _ _ (hvi.mono ?_ (fun _ _=>rfl))⟩
 ·rintro b (h2 | h2)
  ·exact Nat.lt_of_lt_of_le (hF b h2) hb.size
  exact h2.2
 ·rintro b ((h2 | ⟨o,x,-,hx,rfl⟩) | h2)
  ·exact .inl h2
  ·exact .inr (.inr ⟨o,x,hx,rfl⟩)
  exact .inr (.inl h2.1)
 rintro b (h2 | ⟨-,h2⟩)
 ·exact .inr h2
 exact .inl h2
section
variable {P:Program} {T:Tab} {Q:Exit→Env→Store→Prop} {e:Env} {S:Store} {b:Code}
end
end
theorem Ev.imp {P:Program} {f:FuncId} {a:List PV} {S:Store} {J J':PV→Store→Prop} (h:Ev P f a S J) (k:∀ v S,J v S→J' v S):Ev P f a S J' :=
 ⟨h.ent,fun F G w c h1 h2 h3 h4=>(h.run F G w c h1 h2 h3 h4).mono fun _ _ ⟨v,cv,F',G',e,j,r⟩=>⟨v,cv,F',G',e,k _ _ j,r⟩⟩
theorem z5o {S:Store} {p:List Txt} {t:Nat} (h:S.obs[1]?=some (.arr t 9 1 (p.map .str))):frz S 1 10 (.loc 1 t 0 p.length)=some (zai p):=by
 have hm:(p.map PV.str).mapM (rfz S 1 9)=some (p.map PV.str):=zrl (fun _=>rfl) _
 have ht:(p.map PV.str).take p.length=p.map PV.str:=qT (by simp)
 rw [zbz,if_neg (by omega),zb0,h]
 simp only[Nat.zero_add,Nat.mul_one,List.length_map,qR,and_true,if_true,List.drop_zero,ht,hm,qO]
theorem zy9 {f:FuncId} {p q p2:List Txt} {c:Txt} {vb t:Nat} (hf:PN Tryz.prog f [.ip [zai p,zai q] 0,.str c] (.tup [.loc 0 0 0 p2.length,.bool true]) [.arr 0 9 1 (p2.map .str)] false) (R:List Ob) :
  Ev Tryz.prog 153 [.ref 0 vb 0,.str c,.ip [.fn f []] 0] ⟨.arr vb 50 2 [zai p,zai q]::R,t⟩ fun v S=>v = .tup [.str [111,107],.bool true]∧∃ t2,S=⟨.arr vb 50 2 [zai p2,zai q]::R,t2⟩:=by
 have h1:=(zza (vb:=vb) (t:=t) hf).fz 1 (J':=fun v S=>v = .tup [.str [111,107],.bool true]∧∃ t2,S=⟨[.arr vb 50 2 [zai p2,zai q]],t2⟩) (by
  rintro v S ⟨rfl,t2,rfl⟩
  refine ⟨_,_,rfl,?_,rfl,t2,rfl⟩
  have e:=z5o (S:=⟨[.arr vb 50 2 [.loc 1 t 0 p2.length,zai q],.arr t 9 1 (p2.map .str)],t2⟩) (p:=p2) (t:=t) rfl
  show (((([PV.loc 1 t 0 p2.length,zai q]).mapM (frz _ 1 10)).map (Ob.arr vb 50 2 ·)).bind fun a=>(some []).map (a :: ·)).map _=_
  rw [za0 e (za0 (b:=zai q) rfl rfl)]
  rfl)
 refine (h1.frame ?_ R).imp ?_
 ·rintro v S ⟨rfl,t2,rfl⟩
  refine ⟨rfl,.tup _ fun c hc=>?_,fun ob hob=>?_⟩
  ·simp only[List.mem_cons,List.not_mem_nil,or_false]at hc
   rcases hc with rfl | rfl
   ·exact .str _
   exact .bool _
  simp only[List.mem_cons,List.not_mem_nil,or_false]at hob
  subst hob
  intro c hc
  simp only[List.mem_cons,List.not_mem_nil,or_false]at hc
  rcases hc with rfl | rfl <;> exact .sl _ _
 rintro v S ⟨S1,⟨rfl,t2,rfl⟩,rfl⟩
 exact ⟨rfl,t2,rfl⟩
def zm7 (p:List Txt):Txt:=[112,108,97,110,32]++joinS p
def Stp (p:List Txt) (cmd r:Txt) (v:Nat) (tx:Txt) (S:Store):Nat→Prop
 | 0=>tx=zm7 p++10::(cmd++[10])∧S=⟨[.arr v 50 2 [zai zol,zai zol],.map v tabA,.map v tabT,.arr v 56 2 [.nilp,.nils]],v+1⟩
 | 1=>tx=cmd++[10]∧∃ vq t:Nat,S=⟨[.arr v 50 2 [zai p,zai zol],.map v tabA,.map v tabT,.arr v 56 2 [.ref 3 v 0,.loc 4 vq 0 (([111,107,10]:Txt)).length],.arr vq 5 1 ((([111,107,10]:Txt)).map eB)],t⟩
 | _=>tx=[]∧∃ vq t:Nat,S=⟨[.arr v 50 2 [zai p,zai zol],.map v tabA,.map v tabT,.arr v 56 2 [.ref 3 v 0,.loc 4 vq 0 (([111,107,10]++(r++[10]):Txt)).length],.arr vq 5 1 ((([111,107,10]++(r++[10]):Txt)).map eB)],t⟩
theorem zm4 {B:Nat}:∀ {p:List Txt},(∀ r∈p,r.length≤B)→(joinS p).length≤(B+1)*p.length
 | [],_=>by simp [joinS]
 | [a],h=>by have:=h a (by simp); simp [joinS]; omega
 | a::b::r,h=>by
  have ih:=zm4 (p:=b::r) (fun q hq=>h q (by simp [List.mem_cons.1 hq]))
  have:=h a (by simp)
  rw [joinS,List.length_append,List.length_cons,List.length_cons,Nat.mul_succ]
  omega
theorem zzl {p:List Txt} {m:Nat} (hm:m+1=p.length) (hn:p.length≤6) (hr:∀ r∈p,r.length≤6) (hs47:∀ r∈p,(47:UInt8) ∉ r) (h10:(10:UInt8) ∉ joinS p) (hs:Sm p) (hF:zd9 p=true) {f:FuncId} {cmd r:Txt} {j:Nat} (hc10:(10:UInt8) ∉ cmd) (hc32:(32:UInt8) ∉ cmd) (hcl:cmd.length≤100) (hrl:r.length≤500) (hfind:findKey (.str cmd) tabA 0=some (some (j,.fn 166 [.ip [.fn f []] 0,.ip [.fn 76 []] 0]))) (hf:PC Tryz.prog f [zai p] (.tup [.str r,.bool true]) true):PC Tryz.prog 9 [.str (zm7 p++10::(cmd++[10]))] (.str ([111,107,10]++(r++[10])++([114,111,111,109,115,32]++zos (rP p).length++[10]))) true:=by
 have hjl:=zm4 hr
 have hll:(zm7 p).length=(joinS p).length+5:=by simp [zm7]
 have e1:([10]:Txt).length=1:=rfl
 have e3:([114,111,111,109,115,32]:Txt).length=6:=rfl
 have e4:(zos (rP p).length).length=1:=rfl
 have e5:([114,111,111,109,115,32]++zos (rP p).length:Txt).length=7:=rfl
 have e6:([111,107]:Txt).length=2:=rfl
 have hn9:(rP p).length≤9:=by
  have:=hF
  unfold zd9 at this
  rw [qB]at this
  exact z6p this.1
 have hln:(zm7 p++10::(cmd++[10]):Txt).length=(joinS p).length+cmd.length+7:=by simp [zm7]; omega
 have n10:(10:UInt8) ∉ zm7 p:=by unfold zm7; rw [List.mem_append]; exact fun h=>h.elim (fun h=>absurd h (by decide)) h10
 have hC0:=zzj (a:=zm7 p) (c:=10) (r:=cmd++[10]) n10 (by rw [hln]; omega)
 have hC1:=zzj (a:=cmd) (c:=10) (r:=[]) hc10 (by simp; omega)
 have hC2:=ya0 (a:=[]) (c:=10) (by simp) (by simp)
 have hC3:=zzj (a:=[112,108,97,110]) (c:=32) (r:=joinS p) (by decide) (by simp; omega)
 have hC4:=ya0 (a:=cmd) (c:=32) hc32 (by omega)
 refine PC.of ⟨Tryz.func9,by kernel_rfl,rfl,by kernel_rfl⟩ zao mixed (by show 1≤Tryz.f9.ntmps; decide) ?_
 refine W.r fun K hK=>?_
 simp(disch:=omega)only[↓RU,RV,RH,↓reduceIte,qE,reduceCtorEq,if_pos,↓RS,RG,qA,qM,qL]
 apply hK;clear hK K
 refine W.seq ?_
 refine W.r fun K hK=>?_
 simp(disch:=omega)only[↓RU,RV,RH,↓reduceIte,qE,reduceCtorEq,if_pos,w64,↓RS,RG,qA,qM,qL,zaa,zab]
 apply hK;clear hK K
 refine W.cond rfl (fun h0=>?_) (fun h0=>?_)
 ·try simp only[RL]at h0
  exfalso; rw [hln]at h0; omega
 try simp only[RL]at h0
 refine W.skip ?_
 refine xn ?_
 refine W.r fun K hK=>?_
 simp(disch:=omega)only[↓RU,RV,RH,↓reduceIte,qE,reduceCtorEq,if_pos,↓RS,RG,qA,qM,qL,ty4,zab]
 apply hK;clear hK K
 refine W.r fun K hK=>?_
 simp(disch:=omega)only[↓RU,RV,RH,↓reduceIte,qE,reduceCtorEq,if_pos,↓RS,RG,qA,qM,qL,ty4,ydt,zab,ydu]
 apply hK;clear hK K
 refine W.r fun K hK=>?_
 simp(disch:=omega)only[↓RU,RV,RH,↓reduceIte,qE,reduceCtorEq,if_pos,qN,↓RS,RG,qA,qM,qL]
 refine zac.ev (z9i) ?_
 rintro _ _ ⟨rfl,rfl⟩
 simp(disch:=omega)only[↓RU,RV,RH,↓reduceIte,qE,reduceCtorEq,if_pos,qN,↓RS,RG,qA,qM,qL]
 apply hK;clear hK K
 refine W.joinS [0,4,5,6,7] (fun vs S=>∃ v:Nat,vs=[.str (zm7 p++10::(cmd++[10])),.ref 0 v 0,.mp 1 v,.mp 2 v,.ref 3 v 0]∧S=⟨[.arr v 50 2 [zai zol,zai zol],.map v tabA,.map v tabT,.arr v 56 2 [.nilp,.nils]],v+1⟩) ?_ ?_
 ·
  refine W.k fun K hK=>?_
  simp(disch:=omega)only[↓RU,RV,RH,↓reduceIte,qE,reduceCtorEq,if_pos,↓RS,RG,qA,qM,qL,ty5,ty7,z8m,z8n,zdw]
  apply hK;clear hK K
  refine xn ?_
  refine ⟨0,[1,2,3,4],[.str (zm7 p++10::(cmd++[10])),.ref 0 5 0,.mp 1 5,.mp 2 5,.ref 3 5 0],⟨[.arr 5 50 2 [zai zol,zai zol],.map 5 tabA,.map 5 tabT,.arr 5 56 2 [.nilp,.nils]],5+1⟩,?_,?_,5,rfl,rfl⟩
  ·rfl
  rfl
 rintro vs S - ⟨v,rfl,rfl⟩
 refine W.seq ?_
 refine W.block ?_
 refine W.loop [0,4,5,6,7] (fun n vs S=>∃ (b v:Nat) (tx:Txt),n=2 - b∧b≤2∧vs=[.str tx,.ref 0 v 0,.mp 1 v,.mp 2 v,.ref 3 v 0]∧Stp p cmd r v tx S b) 2 ?_ ?_
 ·exact ⟨4,0,v,_,rfl,by omega,rfl,rfl,rfl⟩
 rintro n vs S - ⟨b,v,tx,rfl,hb2,rfl,hSt⟩
 refine W.block ?_
 refine W.r fun K hK=>?_
 obtain rfl | rfl | rfl:b=0∨b=1∨b=2:=by omega
 ·skip
  obtain ⟨rfl,rfl⟩:=hSt
  simp(disch:=omega)only[↓RU,RV,RH,↓reduceIte,qE,reduceCtorEq,if_pos,qN,↓RS,RG,qA,qM,qL]
  refine zac.pc (hC0) rfl (.inl rfl) ?_
  simp(disch:=omega)only[↓RU,RV,RH,↓reduceIte,qE,reduceCtorEq,if_pos,qN,↓RS,RG,qA,qM,qL]
  apply hK;clear hK K
  refine W.seq ?_
  refine W.r fun K hK=>?_
  simp(disch:=omega)only[↓RU,RV,RH,↓reduceIte,qE,reduceCtorEq,if_pos,↓RS,RG,qA,qM,qL]
  apply hK;clear hK K
  refine W.cond rfl (fun h1=>?_) (fun h1=>?_)
  ·try simp only[RL]at h1
   exact absurd h1 (by simp)
  try simp only[RL]at h1
  refine W.skip ?_
  refine xn ?_
  refine W.r fun K hK=>?_
  simp(disch:=omega)only[↓RU,RV,RH,↓reduceIte,qE,reduceCtorEq,if_pos,↓RS,RG,qA,qM,qL]
  apply hK;clear hK K
  refine W.r fun K hK=>?_
  simp(disch:=omega)only[↓RU,RV,RH,↓reduceIte,qE,reduceCtorEq,if_pos,qN,↓RS,RG,qA,qM,qL]
  refine zac.pc (hC3) rfl (.inl rfl) ?_
  simp(disch:=omega)only[↓RU,RV,RH,↓reduceIte,qE,reduceCtorEq,if_pos,qN,↓RS,RG,qA,qM,qL]
  apply hK;clear hK K
  refine W.r fun K hK=>?_
  simp(disch:=omega)only[↓RU,RV,RH,↓reduceIte,qE,reduceCtorEq,if_pos,↓RS,RG,qA,qM,qL]
  apply hK;clear hK K
  refine W.seq ?_
  refine W.r fun K hK=>?_
  simp(disch:=omega)only[↓RU,RV,RH,↓reduceIte,qE,reduceCtorEq,if_pos,↓RS,RG,qA,qM,qL]
  apply hK;clear hK K
  refine W.cond rfl (fun h2=>?_) (fun h2=>?_)
  ·try simp only[RL]at h2
   refine W.k fun K hK=>?_
   simp(disch:=omega)only[↓RU,RV,RH,↓reduceIte,qE,reduceCtorEq,if_pos,↓RS,RG,qA,qM,qL]
   apply hK;clear hK K
   refine xn ?_
   refine W.r fun K hK=>?_
   simp(disch:=omega)only[↓RU,RV,RH,↓reduceIte,qE,reduceCtorEq,if_pos,↓RS,RG,qA,qM,qL,zhg,zhh,zhi,zab,z5i,zg5,true_and]
   apply hK;clear hK K
   refine W.seq ?_
   refine W.r fun K hK=>?_
   simp(disch:=omega)only[↓RU,RV,RH,↓reduceIte,qE,reduceCtorEq,if_pos,↓RS,RG,qA,qM,qL]
   apply hK;clear hK K
   refine W.cond rfl (fun h3=>?_) (fun h3=>?_)
   ·try simp only[RL]at h3
    exact absurd h3 (by simp)
   try simp only[RL]at h3
   refine W.skip ?_
   refine xn ?_
   refine W.r fun K hK=>?_
   simp(disch:=omega)only[↓RU,RV,RH,↓reduceIte,qE,reduceCtorEq,if_pos,qN,↓RS,RG,qA,qM,qL]
   refine zac.ev (zy9 (z6c hm (by omega) (fun r h=>Nat.le_trans (hr r h) (by omega)) hs47 hs hF (.ip [zai zol,zai zol] 0)) _) ?_
   rintro _ _ ⟨rfl,t1,rfl⟩
   simp(disch:=omega)only[↓RU,RV,RH,↓reduceIte,qE,reduceCtorEq,if_pos,qN,↓RS,RG,qA,qM,qL]
   apply hK;clear hK K
   refine W.seq ?_
   refine W.r fun K hK=>?_
   simp(disch:=omega)only[↓RU,RV,RH,↓reduceIte,qE,reduceCtorEq,if_pos,↓RS,RG,qA,qM,qL]
   apply hK;clear hK K
   refine W.cond rfl (fun h4=>?_) (fun h4=>?_)
   ·try simp only[RL]at h4
    exact absurd h4 (by simp)
   try simp only[RL]at h4
   refine W.skip ?_
   refine xn ?_
   refine W.k fun K hK=>?_
   simp(disch:=omega)only[↓RU,RV,RH,↓reduceIte,qE,reduceCtorEq,if_pos,w64,qN,↓RS,RG,qA,qM,qL,zab,zdc]
   refine zac.ev (zr4 (s:=[111,107,10]) (by simp) (by simp)) ?_
   rintro _ _ ⟨vq,t2,rfl⟩
   simp(disch:=omega)only[↓RU,RV,RH,↓reduceIte,qE,reduceCtorEq,if_pos,w64,qN,↓RS,RG,qA,qM,qL,zab,zdc]
   apply hK;clear hK K
   refine XbN ?_
   refine xn ?_
   refine ⟨1,by omega,5,1,v,cmd++[10],rfl,by omega,?_,rfl,vq,t2,rfl⟩
   simp [Env.put,Env.of]
  try simp only[RL]at h2
  exact absurd h2 (by simp)
 ·skip
  obtain ⟨rfl,vq,t,rfl⟩:=hSt
  simp(disch:=omega)only[↓RU,RV,RH,↓reduceIte,qE,reduceCtorEq,if_pos,qN,↓RS,RG,qA,qM,qL]
  refine zac.pc (hC1) rfl (.inl rfl) ?_
  simp(disch:=omega)only[↓RU,RV,RH,↓reduceIte,qE,reduceCtorEq,if_pos,qN,↓RS,RG,qA,qM,qL]
  apply hK;clear hK K
  refine W.seq ?_
  refine W.r fun K hK=>?_
  simp(disch:=omega)only[↓RU,RV,RH,↓reduceIte,qE,reduceCtorEq,if_pos,↓RS,RG,qA,qM,qL]
  apply hK;clear hK K
  refine W.cond rfl (fun h1=>?_) (fun h1=>?_)
  ·try simp only[RL]at h1
   exact absurd h1 (by simp)
  try simp only[RL]at h1
  refine W.skip ?_
  refine xn ?_
  refine W.r fun K hK=>?_
  simp(disch:=omega)only[↓RU,RV,RH,↓reduceIte,qE,reduceCtorEq,if_pos,↓RS,RG,qA,qM,qL]
  apply hK;clear hK K
  refine W.r fun K hK=>?_
  simp(disch:=omega)only[↓RU,RV,RH,↓reduceIte,qE,reduceCtorEq,if_pos,qN,↓RS,RG,qA,qM,qL]
  refine zac.pc (hC4) rfl (.inl rfl) ?_
  simp(disch:=omega)only[↓RU,RV,RH,↓reduceIte,qE,reduceCtorEq,if_pos,qN,↓RS,RG,qA,qM,qL]
  apply hK;clear hK K
  refine W.r fun K hK=>?_
  simp(disch:=omega)only[↓RU,RV,RH,↓reduceIte,qE,reduceCtorEq,if_pos,↓RS,RG,qA,qM,qL]
  apply hK;clear hK K
  refine W.seq ?_
  refine W.r fun K hK=>?_
  simp(disch:=omega)only[↓RU,RV,RH,↓reduceIte,qE,reduceCtorEq,if_pos,↓RS,RG,qA,qM,qL]
  apply hK;clear hK K
  refine W.cond rfl (fun h2=>?_) (fun h2=>?_)
  ·try simp only[RL]at h2
   exact absurd h2 (by simp)
  try simp only[RL]at h2
  refine W.skip ?_
  refine xn ?_
  refine W.r fun K hK=>?_
  simp(disch:=omega)only[↓RU,RV,RH,↓reduceIte,qE,reduceCtorEq,if_pos,↓RS,RG,qA,qM,qL,zhg,zhh,zhi,zab,hfind,zg5,true_and]
  apply hK;clear hK K
  refine W.seq ?_
  refine W.r fun K hK=>?_
  simp(disch:=omega)only[↓RU,RV,RH,↓reduceIte,qE,reduceCtorEq,if_pos,↓RS,RG,qA,qM,qL]
  apply hK;clear hK K
  refine W.cond rfl (fun h3=>?_) (fun h3=>?_)
  ·try simp only[RL]at h3
   exact absurd h3 (by simp)
  try simp only[RL]at h3
  refine W.skip ?_
  refine xn ?_
  refine W.r fun K hK=>?_
  simp(disch:=omega)only[↓RU,RV,RH,↓reduceIte,qE,reduceCtorEq,if_pos,qN,↓RS,RG,qA,qM,qL]
  refine zac.pc (z9n (p:=p) (b:=zai zol) (c:=[]) hf) (by simp [-qU,reify,Store.cellsOf,qC]) (.inl rfl) ?_
  simp(disch:=omega)only[↓RU,RV,RH,↓reduceIte,qE,reduceCtorEq,if_pos,qN,↓RS,RG,qA,qM,qL]
  apply hK;clear hK K
  refine W.seq ?_
  refine W.r fun K hK=>?_
  simp(disch:=omega)only[↓RU,RV,RH,↓reduceIte,qE,reduceCtorEq,if_pos,↓RS,RG,qA,qM,qL]
  apply hK;clear hK K
  refine W.cond rfl (fun h4=>?_) (fun h4=>?_)
  ·try simp only[RL]at h4
   exact absurd h4 (by simp)
  try simp only[RL]at h4
  refine W.skip ?_
  refine xn ?_
  refine W.k fun K hK=>?_
  simp(disch:=omega)only[↓RU,RV,RH,↓reduceIte,qE,reduceCtorEq,if_pos,w64,qN,↓RS,RG,qA,qM,qL,zab,zdc]
  refine zac.ev (zj3 (l:=[111,107,10]) (s:=r++[10]) (by simp) (by simp; omega)) ?_
  rintro _ _ ⟨vq3,t3,rfl⟩
  simp(disch:=omega)only[↓RU,RV,RH,↓reduceIte,qE,reduceCtorEq,if_pos,w64,qN,↓RS,RG,qA,qM,qL,zab,zdc]
  apply hK;clear hK K
  refine XbN ?_
  refine xn ?_
  refine ⟨0,by omega,5,2,v,[],rfl,by omega,?_,rfl,vq3,t3,rfl⟩
  simp [Env.put,Env.of]
 skip
 obtain ⟨rfl,vq,t,rfl⟩:=hSt
 simp(disch:=omega)only[↓RU,RV,RH,↓reduceIte,qE,reduceCtorEq,if_pos,qN,↓RS,RG,qA,qM,qL]
 refine zac.pc (hC2) rfl (.inl rfl) ?_
 simp(disch:=omega)only[↓RU,RV,RH,↓reduceIte,qE,reduceCtorEq,if_pos,qN,↓RS,RG,qA,qM,qL]
 apply hK;clear hK K
 refine W.seq ?_
 refine W.r fun K hK=>?_
 simp(disch:=omega)only[↓RU,RV,RH,↓reduceIte,qE,reduceCtorEq,if_pos,↓RS,RG,qA,qM,qL]
 apply hK;clear hK K
 refine W.cond rfl (fun h1=>?_) (fun h1=>?_)
 ·try simp only[RL]at h1
  refine W.exit ?_
  refine xe ?_
  refine XBlock.miss (by decide) ?_
  refine xe ?_
  refine XBlock.hit ?_
  refine xn ?_
  refine W.r fun K hK=>?_
  simp(disch:=omega)only[↓RU,RV,RH,↓reduceIte,qE,reduceCtorEq,if_pos,qN,↓RS,RG,qA,qM,qL,ty4,ydt,zab,ydu]
  refine zac.pc (zoa hs hF) rfl (.inl rfl) ?_
  simp(disch:=omega)only[↓RU,RV,RH,↓reduceIte,qE,reduceCtorEq,if_pos,qN,↓RS,RG,qA,qM,qL,ty4,ydt,zab,ydu]
  apply hK;clear hK K
  refine W.r fun K hK=>?_
  simp(disch:=omega)only[↓RU,RV,RH,↓reduceIte,qE,reduceCtorEq,if_pos,qN,w64,↓RS,RG,qA,qM,qL,zab,zdc]
  refine zac.pc (ycq (k:=(rP p).length) (by omega)) rfl (.inl rfl) ?_
  simp(disch:=omega)only[↓RU,RV,RH,↓reduceIte,qE,reduceCtorEq,if_pos,qN,w64,↓RS,RG,qA,qM,qL,zab,zdc]
  refine zac.ev (zj3 (l:=[111,107,10]++(r++[10])) (s:=[114,111,111,109,115,32]++zos (rP p).length++[10]) (by simp; omega) (by simp [zos])) ?_
  rintro _ _ ⟨vq2,t4,rfl⟩
  simp(disch:=omega)only[↓RU,RV,RH,↓reduceIte,qE,reduceCtorEq,if_pos,qN,w64,↓RS,RG,qA,qM,qL,zab,zdc]
  apply hK;clear hK K
  refine W.r fun K hK=>?_
  simp(disch:=omega)only[↓RU,RV,RH,↓reduceIte,qE,reduceCtorEq,if_pos,qN,↓RS,RG,qA,qM,qL]
  refine zac.ev (zfg (A:=[.arr v 50 2 [zai p,zai zol],.map v tabA,.map v tabT]) (l:=[111,107,10]++(r++[10])++([114,111,111,109,115,32]++zos (rP p).length++[10])) (by simp)) ?_
  rintro _ _ ⟨rfl,rfl⟩
  simp(disch:=omega)only[↓RU,RV,RH,↓reduceIte,qE,reduceCtorEq,if_pos,qN,↓RS,RG,qA,qM,qL]
  apply hK;clear hK K
  refine W.ret ?_
  refine Br rfl ?_
  simp [reify,Env.put,zos]
 try simp only[RL]at h1
 exact absurd h1 (by simp)
section
section
variable {P:Program} {T:Tab} {F:Nat→Prop} {G:GSt} {w:World} {e:Env} {a:Act} {F0:Nat→Prop} {G0:GSt} {w0:World} {N:Nat}
theorem z83 (hT:zbd P T) (hi:Inv F G w) (he:zei w.heap F G e a) {o:Oper} {s d el:TypeId} {x:Operand} {str:List UInt8} (hop:o.op = .convert s d x) (hs:(T s).kd = .str) (hd:(T d).kd = .slice el) (hu8:(T el).kd = .int .u8)
  (hx0:e.ev x = .str str) (hlen63:str.length≤1048576) {K:PV→Store→Prop} (h:K (.loc G.er.obs.length G.er.tick 0 str.length) (G.er.push el 1 (str.map eB))) {next:Act→World→Prop} {Q:Exit→Act→World→Prop}
  (hk:Goes F G w K fun cv w'=>next (a.put o.dst cv) w'):o.wp P a w next Q:=by
 have hx:=he.ev x
 rw [hx0]at hx
 obtain ⟨b,ex,hb⟩:=hx.str
 have hr:(execOp a.eval o).run P w = .ok (.value (.slice (some ⟨w.heap.size,0,none⟩) b.size (grownCap w b.size 0 el))) (Lib.bytesWorld w el b):=by
  simp only[execOp,hop,ex]
  rw [Sem.run_bind,Lib.run_convert_string_bytes w s d el b (zio hT hs) (zbp hT hd) (zk1 hT hu8)]
  rfl
 have hlen:str.length=b.size:=by rw [← hb]; simp
 have hsz:(Lib.bytesWorld w el b).heap.size=w.heap.size+1:=Lib.bytesWorld_size w el b
 have hge:=grownCap_ge w b.size 0 el
 have hcs:(Lib.bytesCells w el b).size=grownCap w b.size 0 el:=by
  simp [Lib.bytesCells]; omega
 have hpush:(Lib.bytesWorld w el b).heap=w.heap.push (.cells (Lib.bytesCells w el b) el ((Lib.bytesCells w el b).size,(Lib.bytesCells w el b).size+1)):=by
  apply Array.ext_getElem?
  intro j
  rw [Array.getElem?_push]
  by_cases hj:j=w.heap.size
  ·subst hj; rw [if_pos rfl]; exact Lib.bytesWorld_at_new w el b
  rw [if_neg hj]
  by_cases hj2:j<w.heap.size
  ·exact Lib.bytesWorld_at_old w el b j hj2
  rw [Array.getElem?_eq_none (by omega),Array.getElem?_eq_none (by omega)]
 obtain ⟨k1,k2⟩:=zpq hi (.arr G.tick el 1 (str.map eB)) (Lib.bytesCells w el b).size (Lib.bytesWorld w el b) (w.drawn+1) rfl (Nat.le_succ _) ⟨_,hpush⟩ rfl
  ⟨_,⟨_,Lib.bytesWorld_at_new w el b,.inr (qR _)⟩,rfl,by show (str.map eB).length≤(Lib.bytesCells w el b).size; rw [List.length_map,hcs]; omega,fun i p hp=>by
   have hil:i<str.length:=by have:=(List.getElem?_eq_some_iff.1 hp).1; simpa using this
   rw [List.getElem?_map,List.getElem?_eq_getElem hil]at hp
   cases hp
   refine ⟨rfl,.int .u8 (str[i].toNat:Int),?_,.imm _ _ (.int _ _)⟩
   have:=Lib.bytesWorld_cell w el b i (by omega)
   simp only[World.cell?,Lib.bytesWorld_at_new,Option.isSome_none,qF,if_false]at this
   rw [this,hb,List.getD_eq_getElem?_getD,List.getElem?_eq_getElem hil]
   rfl⟩
 unfold Oper.wp
 rw [hr]
 refine hk (.loc G.er.obs.length G.er.tick 0 str.length) _ _ _ _ (by rw [zu0]; exact h) k1 k2 ?_
 rw [hlen]
 exact zq6 (et:=el) (sz:=1) (cells:=str.map eB) (l:=⟨w.heap.size,(Lib.bytesCells w el b).size⟩) _ _ _ (by simp) (Nat.lt_succ_self _) rfl hge (grownCap_le_maxLen w _ _ _ (by unfold maxLen; omega)) (by rw [Nat.mul_one]; exact hcs.symm)
def zzw (P:Program) (T:Tab) (ops:Array Oper) (Q:Env→Store→Prop):Nat→List Oper→Env→Store→Prop
 | _,[],e,S=>Q e S
 | 0,o::l,e,S=>∃ (s d el:TypeId) (x:Operand) (str:List UInt8),o.guard=none∧o.op = .convert s d x∧(T s).kd = .str∧(T d).kd = .slice el∧(T el).kd = .int .u8∧e.ev x = .str str∧str.length≤1048576 ∧
   z2b P T ops Q l (e.put o.dst (.loc S.obs.length S.tick 0 str.length)) (S.push el 1 (str.map eB))
 | k+1,o::l,e,S=>o.guard=none∧pOp P T e S o.op fun v S'=>zzw P T ops Q k l (e.put o.dst v) S'
theorem zrc {R:Option Nat} {nn:Nat} (hT:zbd P T) {ops:Array Oper} {Q:Env→Store→Prop}:∀ (k:Nat) (l:List Oper) {e:Env} {F:Nat→Prop} {G:GSt} {a:Act} {w:World},zzw P T ops Q k l e G.er→Inv F G w→zei w.heap F G e a →
  Next F0 G0 w0 F G w→a.tmps.size=N→Marks w0 a.defers w→(∀ o∈l,∀ d,o.dst=some d→d<N)→wpListIn (fnc R) nn P ops (Sto F0 G0 w0 N (Nrm Q)) l a w
 | _,[],e,F,G,a,w,h,hi,he,hn,hs,hd,_=>by
  have h':Q e G.er:=by unfold zzw at h; exact h
  exact ⟨e,F,G,h',hi,he,hn,hs,hd⟩
 | 0,o::l,e,F,G,a,w,h,hi,he,hn,hs,hd,hdst=>by
  have ho:∀ t,o.dst=some t→t<a.tmps.size:=fun t ht=>by rw [hs]; exact hdst o (by simp) t ht
  have hl:∀ o∈l,∀ d,o.dst=some d→d<N:=fun o' h'=>hdst o' (by simp [h'])
  unfold zzw at h
  obtain ⟨s,d,el,x,str,hg,hop,q1,q2,q3,q4,q5,h⟩:=h
  unfold wpListIn
  have hw:Region.wanted o (yielded ops a.tmps)=true:=by unfold Region.wanted; rw [hg]
  rw [if_pos hw]
  refine ye6 (by rw [hop]; intro c q; cases q) (z83 hT hi he hop q1 q2 q3 q4 q5 (K:=fun v S'=>v = .loc G.er.obs.length G.er.tick 0 str.length∧S'=G.er.push el 1 (str.map eB)) ⟨rfl,rfl⟩ ?_)
  rintro v cv F' G' w' ⟨rfl,hE⟩ i1 i2 i3
  refine zkf hT l (by rw [hE]; exact h) i1 ((he.next hi i2).put _ ho i3) (hn.trans i2) (by rw [ze8]; exact hs) (by rw [zc5]; exact hd.next hi i2) hl
 | k+1,o::l,e,F,G,a,w,h,hi,he,hn,hs,hd,hdst=>by
  have ho:∀ t,o.dst=some t→t<a.tmps.size:=fun t ht=>by rw [hs]; exact hdst o (by simp) t ht
  have hl:∀ o∈l,∀ d,o.dst=some d→d<N:=fun o' h'=>hdst o' (by simp [h'])
  unfold zzw at h
  obtain ⟨hg,h⟩:=h
  unfold wpListIn
  have hw:Region.wanted o (yielded ops a.tmps)=true:=by unfold Region.wanted; rw [hg]
  rw [if_pos hw]
  refine zkd hT hi he h ?_
  intro v cv F' G' w' hK i1 i2 i3
  exact zrc hT k l hK i1 ((he.next hi i2).put _ ho i3) (hn.trans i2) (by rw [ze8]; exact hs) (by rw [zc5]; exact hd.next hi i2) hl
end
section
variable {P:Program} {T:Tab} {Q:Exit→Env→Store→Prop} {e:Env} {S:Store} {b:Code}
theorem W.region_t (k:Nat) {id:Nat} {ops:Array Oper} (h:zzw P T ops (Q .normal) k ops.toList e S):W P T (.region id ops false) Q e S:=by
 refine ⟨?_⟩
 intro hT hm F0 G0 w0 N F G a w h3 h4 h5 h6 h7 h8 h9 R nn
 subst h3
 refine wpIn_mono (wpIn_region_list (zrc hT k _ h h4 h5 h6 h7 h8 (zuz h9))) ?_
 exact z1w
def yfe (P:Program) (T:Tab) (ds:List (Option Tmp)) (o:Oper) (l:List Oper) (e:Env) (S:Store) (K:Env→Store→Prop):Prop :=
 ∃ (s d el:TypeId) (x:Operand) (str:List UInt8),o.guard=none∧o.op = .convert s d x∧(T s).kd = .str∧(T d).kd = .slice el∧(T el).kd = .int .u8∧e.ev x = .str str∧str.length≤1048576 ∧
  za7 false P T ds l (e.put o.dst (.loc S.obs.length S.tick 0 str.length)) (S.push el 1 (str.map eB)) K
theorem zrd {ops:Array Oper} {K K':Env→Store→Prop} (h:∀ e S,K e S→K' e S):∀ (l:List Oper) {e:Env} {S:Store},z2b P T ops K l e S→z2b P T ops K' l e S
 | [],e,S,k=>h e S k
 | o::l,e,S,k=>by
  unfold z2b zeo at k ⊢
  cases hg:gdec ops o e with
  | none=>rw [hg]at k; exact k.elim
  | some b =>
   rw [hg]at k
   cases b with
   | true=>exact ze7 (fun v S' k=>zrd h l k) k
   | false=>exact zrd h l k
theorem zxz {ops:Array Oper} {K:Env→Store→Prop} {o:Oper} {l2:List Oper}:∀ (l1:List Oper) {e:Env} {S:Store},l1.all (fun o=>o.guard.isNone)=true →
  z2b P T ops (fun e S=>∃ (s d el:TypeId) (x:Operand) (str:List UInt8),o.guard=none∧o.op = .convert s d x∧(T s).kd = .str∧(T d).kd = .slice el∧(T el).kd = .int .u8∧e.ev x = .str str∧str.length≤1048576 ∧
   z2b P T ops K l2 (e.put o.dst (.loc S.obs.length S.tick 0 str.length)) (S.push el 1 (str.map eB))) l1 e S→zzw P T ops K l1.length (l1++o::l2) e S
 | [],e,S,_,h=>h
 | q::l1,e,S,hg,h=>by
  simp only[List.all_cons,qB,Option.isNone_iff_eq_none]at hg
  show q.guard=none∧_
  refine ⟨hg.1,?_⟩
  unfold z2b zeo gdec at h
  rw [hg.1]at h
  exact ze7 (fun v S' h=>zxz l1 hg.2 h) h
theorem W.seq_thaw {id:Nat} {l1 l2:List Oper} {o:Oper} (hg:l1.all (fun o=>o.guard.isNone)=true) (h:∀ K:Env→Store→Prop,(∀ e S,W P T b Q e S→K e S)→za7 false P T (dsts (l1++o::l2)) l1 e S fun e S=>yfe P T (dsts (l1++o::l2)) o l2 e S K) :
  W P T (.seq (.region id (l1++o::l2).toArray false) b) Q e S:=by
 refine W.seq (W.region_t l1.length ?_)
 have h1:=zjh l1 e S (h _ fun _ _ h=>h)
 refine zxz l1 hg (zrd ?_ l1 h1)
 rintro e S ⟨s,d,el,x,str,q1,q2,q3,q4,q5,q6,q7,q8⟩
 exact ⟨s,d,el,x,str,q1,q2,q3,q4,q5,q6,q7,zjh l2 _ _ q8⟩
end
end
abbrev eBy (l:Txt):PV := .sl (l.map eB) l.length
theorem z0q {a b:Nat}:((a:Nat):Int).tmod ((b:Nat):Int)=((a % b:Nat):Int):=(Int.ofNat_tmod a b).symm
theorem ydh {a b:Nat}:((a:Nat):Int).tdiv ((b:Nat):Int)=((a / b:Nat):Int):=(Int.ofNat_tdiv a b).symm
theorem yf7 {a b:Nat} (ha:a<1099511627776) (hb:b<1099511627776):IntKind.i64.wrap ((BitVec.ofInt IntKind.i64.bits (a:Int) ^^^ BitVec.ofInt IntKind.i64.bits (b:Int)).toNat:Int)=((a ^^^ b:Nat):Int):=by
 have h1:(BitVec.ofInt 64 (a:Int)).toNat=a:=by simp [BitVec.toNat_ofInt]; omega
 have h2:(BitVec.ofInt 64 (b:Int)).toNat=b:=by simp [BitVec.toNat_ofInt]; omega
 have h3:(BitVec.ofInt IntKind.i64.bits (a:Int) ^^^ BitVec.ofInt IntKind.i64.bits (b:Int)).toNat=a ^^^ b:=by
  show (BitVec.ofInt 64 (a:Int) ^^^ BitVec.ofInt 64 (b:Int)).toNat=_
  rw [BitVec.toNat_xor,h1,h2]
 have h4:a ^^^ b<1099511627776:=Nat.xor_lt_two_pow (n:=40) ha hb
 rw [h3]
 exact w64 (by omega) (by omega)
theorem yez {k:Nat}:((k:Nat):Int).tdiv 64=((k / 64:Nat):Int):=(Int.ofNat_tdiv k 64).symm
theorem sf0:((64:Int)=0)=False:=by simp
def rdO (vr:Nat) (code:Txt) (q:Nat):Ob := .arr vr 135 2 [eBy code,.int .i64 (q:Int)]
theorem z57 {code:Txt} (hc:code.length≤1048576):PN Tryz.prog 32 [eBy code] (.ref 0 0 0) [rdO 0 (code.take 2000) 0] true:=by
 refine PN.of ⟨Tryz.func32,by kernel_rfl,rfl,by kernel_rfl⟩ zao mixed (by show 1≤Tryz.f32.ntmps; decide) ?_
 refine W.r fun K hK=>?_
 simp(disch:=omega)only[↓RU,RV,RH,↓reduceIte,qE,reduceCtorEq,if_pos,↓RS,RG,qA,qM,qL]
 apply hK;clear hK K
 refine W.seq ?_
 refine W.r fun K hK=>?_
 simp(disch:=omega)only[↓RU,RV,RH,↓reduceIte,qE,reduceCtorEq,if_pos,w64,↓RS,RG,qA,qM,qL,ty5,zaa,zdw]
 apply hK;clear hK K
 refine W.cond rfl (fun h=>?_) (fun h=>?_)
 ·try simp only[RL]at h
  refine W.k fun K hK=>?_
  simp(disch:=omega)only[↓RU,RV,RH,↓reduceIte,qE,reduceCtorEq,if_pos,Option.map_none,↓RS,RG,qA,qM,qL,ty5,zdw]
  apply hK;clear hK K
  refine xn ?_
  refine W.r fun K hK=>?_
  simp(disch:=omega)only[↓RU,RV,RH,↓reduceIte,qE,reduceCtorEq,if_pos,↓RS,RG,qA,qM,qL,ty5,zaa,yai,yaj,zdw]
  apply hK;clear hK K
  refine W.ret ?_
  refine Br rfl ?_
  have e:(code.take 2000).length=2000:=by rw [List.length_take]; omega
  refine ⟨1,rfl,?_⟩
  simp [Store.take,zmo,z2t,sh,rdO,eBy,e,List.map_take]
 try simp only[RL]at h
 refine W.skip ?_
 refine xn ?_
 refine W.r fun K hK=>?_
 simp(disch:=omega)only[↓RU,RV,RH,↓reduceIte,qE,reduceCtorEq,if_pos,↓RS,RG,qA,qM,qL,ty5,zaa,yai,yaj,zdw]
 apply hK;clear hK K
 refine W.ret ?_
 refine Br rfl ?_
 have e:code.take 2000=code:=qT (by omega)
 refine ⟨1,rfl,?_⟩
 simp [Store.take,zmo,z2t,sh,rdO,eBy,e]
theorem z9u {code:Txt} {q vr t:Nat} {R:List Ob} (hc:code.length≤1048576) (hq:q≤1000000) (n:Int) (hn:n≤1000000) (hn0 : -1000000≤n):Ev Tryz.prog 129 [.ref 0 vr 0,.int .i64 n] ⟨.arr vr 135 2 [eBy code,.int .i64 (q:Int)]::R,t⟩ fun v S=>∃ k:Nat,v = .int .i64 (k:Int)∧(n<1→k=0)∧(1≤n→(k:Int)<n)∧S=⟨.arr vr 135 2 [eBy code,.int .i64 ((q:Int)+1)]::R,t⟩:=by
 refine Ev.of ⟨Tryz.func129,by kernel_rfl,rfl,by kernel_rfl⟩ zao mixed (by show 2≤Tryz.f129.ntmps; decide) ?_
 refine W.r fun K hK=>?_
 simp(disch:=omega)only[↓RU,RV,RH,↓reduceIte,qE,reduceCtorEq,if_pos,↓RS,RG,qA,qM,qL]
 apply hK;clear hK K
 refine W.r fun K hK=>?_
 simp(disch:=omega)only[↓RU,RV,RH,↓reduceIte,qE,reduceCtorEq,if_pos,w64,↓RS,RG,qA,qM,qL,ty5,zaa,yai,yaj,zdw]
 apply hK;clear hK K
 refine W.seq ?_
 refine W.r fun K hK=>?_
 by_cases hn1:n<1
 ·skip
  have hd:decide (n<1)=true:=decide_eq_true hn1
  simp(disch:=omega)only[↓RU,RV,RH,↓reduceIte,qE,reduceCtorEq,if_pos,w64,↓RS,RG,qA,qM,qL,ty5,zaa,yai,yaj,zdw,hd]
  apply hK;clear hK K
  refine W.cond rfl (fun h0=>?_) (fun h0=>?_)
  ·try simp only[RL]at h0
   refine W.r fun K hK=>?_
   simp(disch:=omega)only[↓RU,RV,RH,↓reduceIte,qE,reduceCtorEq,if_pos,↓RS,RG,qA,qM,qL]
   apply hK;clear hK K
   refine W.ret ?_
   refine XThen.ret ?_
   refine Br rfl ?_
   exact ⟨_,0,rfl,fun _=>rfl,fun h9=>by omega,zat⟩
  try simp only[RL]at h0
  exact absurd h0 (by simp)
 skip
 have hd:decide (n<1)=false:=decide_eq_false hn1
 obtain ⟨m,rfl⟩:∃ m:Nat,n=m:=⟨n.toNat,by omega⟩
 simp(disch:=omega)only[↓RU,RV,RH,↓reduceIte,qE,reduceCtorEq,if_pos,w64,↓RS,RG,qA,qM,qL,ty5,zaa,yai,yaj,zdw,hd]
 apply hK;clear hK K
 refine W.cond rfl (fun h0=>?_) (fun h0=>?_)
 ·try simp only[RL]at h0
  have hl0:code.length=0:=by simpa using h0
  refine W.r fun K hK=>?_
  simp(disch:=omega)only[↓RU,RV,RH,↓reduceIte,qE,reduceCtorEq,if_pos,↓RS,RG,qA,qM,qL]
  apply hK;clear hK K
  refine W.ret ?_
  refine XThen.ret ?_
  refine Br rfl ?_
  exact ⟨_,0,rfl,fun _=>rfl,fun h9=>by omega,zat⟩
 try simp only[RL]at h0
 have hl0:code.length≠0:=by intro h9; rw [h9]at h0; simp at h0
 obtain ⟨L,hL⟩:∃ L:Nat,code.length=L:=⟨_,rfl⟩
 have hLi:((L:Int)=0)=False:=by simp; omega
 have hmi:((m:Int)=0)=False:=by simp; omega
 rw [hL]at hl0 hc
 refine W.skip ?_
 refine xn ?_
 refine W.r fun K hK=>?_
 simp(disch:=omega)only[↓RU,RV,RH,↓reduceIte,qE,reduceCtorEq,if_pos,w64,↓RS,RG,qA,qM,qL,ty5,zaa,yai,yaj,zdw]
 apply hK;clear hK K
 simp only[show ((q:Int)+1 - 1)=(q:Int) from by omega]
 refine W.seq ?_
 refine W.r fun K hK=>?_
 simp(disch:=omega)only[↓RU,RV,RH,↓reduceIte,qE,reduceCtorEq,if_pos,w64,↓RS,RG,qA,qM,qL,ty5,zaa,yai,yaj,zdw,hL]
 apply hK;clear hK K
 refine W.cond rfl (fun h1=>?_) (fun h1=>?_)
 ·try simp only[RL]at h1
  obtain ⟨c,hcq,-⟩:=zaf (show q<code.length by omega)
  have hc8:=c.toNat_lt
  refine W.r fun K hK=>?_
  simp(disch:=omega)only[↓RU,RV,RH,↓reduceIte,qE,reduceCtorEq,if_pos,w64,w64,↓RS,RG,qA,qM,qL,ty5,zaa,yai,yaj,zdw,hcq,hmi,z0q]
  apply hK;clear hK K
  refine W.ret ?_
  refine XThen.ret ?_
  refine Br rfl ?_
  exact ⟨_,_,rfl,fun h9=>by omega,fun _=>by have:=Nat.mod_lt c.toNat (show 0<m by omega); omega,zat⟩
 try simp only[RL]at h1
 obtain ⟨c1,hc1,-⟩:=zaf (show q % L<code.length by rw [hL]; exact Nat.mod_lt _ (by omega))
 obtain ⟨c2,hc2,-⟩:=zaf (show (q*7+3) % L<code.length by rw [hL]; exact Nat.mod_lt _ (by omega))
 have hb1:=c1.toNat_lt
 have hb2:=c2.toNat_lt
 have hq7:(q:Int)*7+3=((q*7+3:Nat):Int):=by omega
 obtain ⟨d,hd⟩:∃ d,q / L=d:=⟨_,rfl⟩
 have hqL:d≤q:=hd ▸ Nat.div_le_self _ _
 have hml1:=Nat.mod_lt q (show 0<L by omega)
 have hml2:=Nat.mod_lt (q*7+3) (show 0<L by omega)
 refine W.skip ?_
 refine xn ?_
 refine W.seq_draw (by kernel_rfl) fun K hK=>?_
 simp(disch:=omega)only[↓RU,RV,RH,↓reduceIte,qE,reduceCtorEq,if_pos,w64,w64,↓RS,RG,qA,qM,qL,ty5,zaa,yai,yaj,zdw,hL,hLi,z0q,ydh,hc1,hc2,hq7,hd]
 apply hK;clear hK K
 obtain ⟨Y,hY⟩:∃ Y:Nat,(c1.toNat:Int)*131+(c2.toNat:Int)*1117+(q:Int)*29+(d:Int)*53=Y:=⟨c1.toNat*131+c2.toNat*1117+q*29+d*53,by omega⟩
 have hYb:Y<1099511627776:=by omega
 have hYd:Y / 64<1099511627776:=by omega
 simp only[hY]
 refine W.r fun K hK=>?_
 simp(disch:=omega)only[↓RU,RV,RH,↓reduceIte,qE,reduceCtorEq,if_pos,w64,↓RS,RG,qA,qM,qL,zaa,sf0,yez,yf7 hYb hYd]
 apply hK;clear hK K
 refine W.r fun K hK=>?_
 simp(disch:=omega)only[↓RU,RV,RH,↓reduceIte,qE,reduceCtorEq,if_pos,w64,↓RS,RG,qA,qM,qL,zaa,hmi,z0q]
 apply hK;clear hK K
 refine W.ret ?_
 refine Br rfl ?_
 exact ⟨_,_,rfl,fun h9=>by omega,fun _=>by have:=Nat.mod_lt (Y ^^^ Y / 64) (show 0<m by omega); omega,zat⟩
theorem yet {l:Txt} {a:Nat} {c:UInt8}:(l.map eB).set a (.int .u8 (c.toNat:Int))=(l.set a c).map eB:=by rw [List.map_set]
theorem zs4 (l:Txt):zfh (l.map eB)=some l:=zlb l
theorem zfd  : PC Tryz.prog 312 [] (.tup [zai [],.bool false]) true:=by
 refine PC.of ⟨Tryz.func312,by kernel_rfl,rfl,by kernel_rfl⟩ zao mixed (by show 0≤Tryz.f312.ntmps; decide) ?_
 refine W.r fun K hK=>?_
 simp(disch:=omega)only[↓RU,RV,RH,↓reduceIte,qE,reduceCtorEq,if_pos,↓RS,RG,qA,qM,qL]
 apply hK;clear hK K
 refine W.r fun K hK=>?_
 simp(disch:=omega)only[↓RU,RV,RH,↓reduceIte,qE,reduceCtorEq,if_pos,↓RS,RG,qA,qM,qL,ty4,zab]
 apply hK;clear hK K
 refine W.ret ?_
 refine Br rfl ?_
 exact znd (k:=9) (zci (k:=8) (n:=0) rfl rfl rfl) rfl
theorem zu7 {p:List Txt} (hs:Sm p) {tp lf hg wd:Nat} {c:UInt8} (h1:tp+hg≤p.length) (h2:∀ row∈p,lf+wd≤row.length):PC Tryz.prog 314 [zai p,.int .i64 tp,.int .i64 lf,.int .i64 hg,.int .i64 wd,eB c] (zai (zjs p tp lf wd c (tp+hg))) true:=by
 obtain ⟨hs1,hs2⟩:=hs
 refine PC.of ⟨Tryz.func314,by kernel_rfl,rfl,by kernel_rfl⟩ zao mixed (by show 6≤Tryz.f314.ntmps; decide) ?_
 refine W.r fun K hK=>?_
 simp(disch:=omega)only[↓RU,RV,RH,↓reduceIte,qE,reduceCtorEq,if_pos,↓RS,RG,qA,qM,qL]
 apply hK;clear hK K
 refine W.r fun K hK=>?_
 simp(disch:=omega)only[↓RU,RV,RH,↓reduceIte,qE,reduceCtorEq,if_pos,↓RS,RG,qA,qM,qL,ty4,zab]
 apply hK;clear hK K
 refine W.seq ?_
 refine W.r fun K hK=>?_
 simp(disch:=omega)only[↓RU,RV,RH,↓reduceIte,qE,reduceCtorEq,if_pos,↓RS,RG,qA,qM,qL]
 apply hK;clear hK K
 refine W.block ?_
 refine W.loop [0,1,2,3,4,5,13,14] (fun n vs S=>∃ j t v:Nat,n=hg - j∧j≤hg∧vs=[zai p,.int .i64 tp,.int .i64 lf,.int .i64 hg,.int .i64 wd,eB c,.loc 0 v 0 p.length,.int .i64 ((tp+j:Nat):Int)]∧S=⟨[.arr v 9 1 ((zjs p tp lf wd c (tp+j)).map .str)],t⟩) hg ?_ ?_
 ·refine ⟨1,0,2,1,rfl,by omega,?_,?_⟩
  ·simp [Env.put,Env.of,zag]
  simp [zbl,z32]
 rintro n vs S - ⟨j,t,v,rfl,h_j,rfl,rfl⟩
 refine W.seq ?_
 refine W.r fun K hK=>?_
 simp(disch:=omega)only[↓RU,RV,RH,↓reduceIte,qE,reduceCtorEq,if_pos,w64,↓RS,RG,qA,qM,qL,zaa]
 apply hK;clear hK K
 refine W.cond rfl (fun h=>?_) (fun h=>?_)
 ·try simp only[RL]at h
  obtain ⟨i,hi⟩:∃ i,tp+j=i:=⟨_,rfl⟩
  simp only[hi]
  obtain ⟨row,hrow0,hrm⟩:=zaf (show i<p.length by omega)
  have hrow:=z9z (t:=tp) (l:=lf) (w:=wd) (c:=c) hrow0
  have hlen:=zg6 (p:=p) (t:=tp) (l:=lf) (w:=wd) (c:=c) (i:=i)
  have hr1:=hs2 row hrm
  have hr2:=h2 row hrm
  refine W.skip ?_
  refine xn ?_
  refine W.seq ?_
  refine W.block ?_
  refine W.seq_thaw (l1:=[_,_,_,_]) (o:=_) (l2:=[_]) rfl fun K hK=>?_
  simp(disch:=omega)only[↓RU,RV,RH,↓reduceIte,qE,reduceCtorEq,if_pos,w64,↓RS,RG,qA,qM,qL,ty4,ty5,zab,zdw,hrow,hlen]
  refine ⟨_,_,_,_,_,rfl,rfl,rfl,rfl,rfl,rfl,by omega,?_⟩
  simp(disch:=omega)only[↓RU,RV,RH,↓reduceIte,qE,reduceCtorEq,if_pos,w64,↓RS,RG,qA,qM,qL,ty4,ty5,zab,zdw,hrow,hlen]
  apply hK;clear hK K
  refine W.seq ?_
  refine W.r fun K hK=>?_
  simp(disch:=omega)only[↓RU,RV,RH,↓reduceIte,qE,reduceCtorEq,if_pos,↓RS,RG,qA,qM,qL]
  apply hK;clear hK K
  refine W.block ?_
  refine W.loop [0,1,2,3,4,5,13,14,15,16] (fun n vs S=>∃ k t2:Nat,n=wd - k∧k≤wd∧vs=[zai p,.int .i64 tp,.int .i64 lf,.int .i64 hg,.int .i64 wd,eB c,.loc 0 v 0 p.length,.int .i64 (i:Int),.loc 1 t 0 row.length,.int .i64 ((lf+k:Nat):Int)]∧S=⟨[.arr v 9 1 ((zjs p tp lf wd c i).map .str),.arr t 5 1 ((zi5 row lf c (lf+k)).map eB)],t2⟩) wd ?_ ?_
  ·refine ⟨2,0,t+1,rfl,by omega,?_,?_⟩
   ·simp [Env.put,Env.of]
   simp [zbl,z0b]
  rintro n vs S - ⟨k,t2,rfl,h_k,rfl,rfl⟩
  refine W.seq ?_
  refine W.r fun K hK=>?_
  simp(disch:=omega)only[↓RU,RV,RH,↓reduceIte,qE,reduceCtorEq,if_pos,w64,↓RS,RG,qA,qM,qL,zaa]
  apply hK;clear hK K
  refine W.cond rfl (fun h3=>?_) (fun h3=>?_)
  ·try simp only[RL]at h3
   have hrl:=zki (row:=row) (l:=lf) (k:=lf+k) (c:=c)
   refine W.skip ?_
   refine xn ?_
   refine W.seq ?_
   refine W.block ?_
   refine W.k fun K hK=>?_
   simp(disch:=omega)only[↓RU,RV,RH,↓reduceIte,qE,reduceCtorEq,if_pos,↓RS,RG,qA,qM,qL,ty5,zdw,hrl,zc6,yet]
   apply hK;clear hK K
   refine XbN ?_
   refine xn ?_
   refine W.k fun K hK=>?_
   simp(disch:=omega)only[↓RU,RV,RH,↓reduceIte,qE,reduceCtorEq,if_pos,w64,↓RS,RG,qA,qM,qL,zaa]
   apply hK;clear hK K
   refine xn ?_
   refine ⟨wd - (k+1),by omega,2,k+1,t2,rfl,by omega,?_,?_⟩
   ·simp [Env.put,Env.of]; omega
   simp only[zbl]; rw [z0a (by omega) (by omega)]; rfl
  try simp only[RL]at h3
  obtain rfl:k=wd:=by omega
  have hrl:=zki (row:=row) (l:=lf) (k:=lf+k) (c:=c)
  have htk:((zi5 row lf c (lf+k)).map eB).take row.length=(zi5 row lf c (lf+k)).map eB:=qT (by simp [hrl])
  refine W.exit ?_
  refine xe ?_
  refine xe ?_
  refine XBlock.hit ?_
  refine xn ?_
  refine W.k fun K hK=>?_
  simp(disch:=omega)only[↓RU,RV,RH,↓reduceIte,qE,reduceCtorEq,if_pos,w64,↓RS,RG,qA,qM,qL,ty4,ty5,zab,zdw,hrl,htk,zs4,hlen,zc6,zrs,zbn,List.length_cons,List.length_nil,qO]
  apply hK;clear hK K
  refine XbN ?_
  refine xn ?_
  refine W.k fun K hK=>?_
  simp(disch:=omega)only[↓RU,RV,RH,↓reduceIte,qE,reduceCtorEq,if_pos,w64,↓RS,RG,qA,qM,qL,zaa]
  apply hK;clear hK K
  refine xn ?_
  refine ⟨hg - (j+1),by omega,1,j+1,t2,v,rfl,by omega,?_,?_⟩
  ·subst hi; simp [Env.put,Env.of]; omega
  subst hi; simp only[zbl,List.take_succ_cons,List.take_zero]; rw [z31 (by omega) hrow0]; rfl
 try simp only[RL]at h
 refine W.exit ?_
 refine xe ?_
 refine xe ?_
 refine XBlock.hit ?_
 refine xn ?_
 refine W.r fun K hK=>?_
 simp(disch:=omega)only[↓RU,RV,RH,↓reduceIte,qE,reduceCtorEq,if_pos,↓RS,RG,qA,qM,qL]
 apply hK;clear hK K
 refine W.ret ?_
 refine Br rfl ?_
 obtain rfl:j=hg:=by omega
 exact (zci (k:=9) rfl (by simp [zg6]) (zgq _)).trans (by simp [zg6])
theorem zqz {p:List Txt} (hs:Sm p):PC Tryz.prog 313 [zai p] (.tup [zai (zi8 p).1,.bool (zi8 p).2]) false:=by
 refine PC.of ⟨Tryz.func313,by kernel_rfl,rfl,by kernel_rfl⟩ zao mixed (by show 1≤Tryz.f313.ntmps; decide) ?_
 refine W.r fun K hK=>?_
 simp(disch:=omega)only[↓RU,RV,RH,↓reduceIte,qE,reduceCtorEq,if_pos,↓RS,RG,qA,qM,qL]
 apply hK;clear hK K
 refine W.seq ?_
 refine W.r fun K hK=>?_
 rcases hgg:(zb3 p,zaz (names p)) with ⟨_ | _,_ | _⟩
 ·skip
  simp only[Prod.mk.injEq]at hgg
  obtain ⟨hg1,hg2⟩:=hgg
  simp(disch:=omega)only[↓RU,RV,RH,↓reduceIte,qE,reduceCtorEq,if_pos,qN,↓RS,RG,qA,qM,qL,hg1,hg2]
  refine zac.pc (zfc hs) rfl (.inl rfl) ?_
  simp(disch:=omega)only[↓RU,RV,RH,↓reduceIte,qE,reduceCtorEq,if_pos,qN,↓RS,RG,qA,qM,qL,hg1,hg2]
  apply hK;clear hK K
  refine W.cond rfl (fun h=>?_) (fun h=>?_)
  ·try simp only[RL]at h
   refine W.r fun K hK=>?_
   simp(disch:=omega)only[↓RU,RV,RH,↓reduceIte,qE,reduceCtorEq,if_pos,qN,↓RS,RG,qA,qM,qL]
   refine zac.pc (zfd) rfl (.inl rfl) ?_
   simp(disch:=omega)only[↓RU,RV,RH,↓reduceIte,qE,reduceCtorEq,if_pos,qN,↓RS,RG,qA,qM,qL]
   apply hK;clear hK K
   refine W.ret ?_
   refine XThen.ret ?_
   refine Br rfl ?_
   rw [show zi8 p=([],false) by unfold zi8; rw [hg1]; rfl]
   rfl
  try simp only[RL]at h
  exact absurd h (by simp)
 ·skip
  simp only[Prod.mk.injEq]at hgg
  obtain ⟨hg1,hg2⟩:=hgg
  simp(disch:=omega)only[↓RU,RV,RH,↓reduceIte,qE,reduceCtorEq,if_pos,qN,↓RS,RG,qA,qM,qL,hg1,hg2]
  refine zac.pc (zfc hs) rfl (.inl rfl) ?_
  simp(disch:=omega)only[↓RU,RV,RH,↓reduceIte,qE,reduceCtorEq,if_pos,qN,↓RS,RG,qA,qM,qL,hg1,hg2]
  apply hK;clear hK K
  refine W.cond rfl (fun h=>?_) (fun h=>?_)
  ·try simp only[RL]at h
   refine W.r fun K hK=>?_
   simp(disch:=omega)only[↓RU,RV,RH,↓reduceIte,qE,reduceCtorEq,if_pos,qN,↓RS,RG,qA,qM,qL]
   refine zac.pc (zfd) rfl (.inl rfl) ?_
   simp(disch:=omega)only[↓RU,RV,RH,↓reduceIte,qE,reduceCtorEq,if_pos,qN,↓RS,RG,qA,qM,qL]
   apply hK;clear hK K
   refine W.ret ?_
   refine XThen.ret ?_
   refine Br rfl ?_
   rw [show zi8 p=([],false) by unfold zi8; rw [hg1]; rfl]
   rfl
  try simp only[RL]at h
  exact absurd h (by simp)
 ·skip
  simp only[Prod.mk.injEq]at hgg
  obtain ⟨hg1,hg2⟩:=hgg
  simp(disch:=omega)only[↓RU,RV,RH,↓reduceIte,qE,reduceCtorEq,if_pos,qN,↓RS,RG,qA,qM,qL,hg1,hg2]
  refine zac.pc (zfc hs) rfl (.inl rfl) ?_
  simp(disch:=omega)only[↓RU,RV,RH,↓reduceIte,qE,reduceCtorEq,if_pos,qN,↓RS,RG,qA,qM,qL,hg1,hg2]
  refine zac.pc (ziq hs) rfl (.inl rfl) ?_
  simp(disch:=omega)only[↓RU,RV,RH,↓reduceIte,qE,reduceCtorEq,if_pos,qN,↓RS,RG,qA,qM,qL,hg1,hg2]
  refine zac.pc (zea hs.names) rfl (.inl rfl) ?_
  simp(disch:=omega)only[↓RU,RV,RH,↓reduceIte,qE,reduceCtorEq,if_pos,qN,↓RS,RG,qA,qM,qL,hg1,hg2]
  apply hK;clear hK K
  refine W.cond rfl (fun h=>?_) (fun h=>?_)
  ·try simp only[RL]at h
   refine W.r fun K hK=>?_
   simp(disch:=omega)only[↓RU,RV,RH,↓reduceIte,qE,reduceCtorEq,if_pos,qN,↓RS,RG,qA,qM,qL]
   refine zac.pc (zfd) rfl (.inl rfl) ?_
   simp(disch:=omega)only[↓RU,RV,RH,↓reduceIte,qE,reduceCtorEq,if_pos,qN,↓RS,RG,qA,qM,qL]
   apply hK;clear hK K
   refine W.ret ?_
   refine XThen.ret ?_
   refine Br rfl ?_
   rw [show zi8 p=([],false) by unfold zi8; rw [hg1,hg2]; rfl]
   rfl
  try simp only[RL]at h
  exact absurd h (by simp)
 skip
 simp only[Prod.mk.injEq]at hgg
 obtain ⟨hg1,hg2⟩:=hgg
 simp(disch:=omega)only[↓RU,RV,RH,↓reduceIte,qE,reduceCtorEq,if_pos,qN,↓RS,RG,qA,qM,qL,hg1,hg2]
 refine zac.pc (zfc hs) rfl (.inl rfl) ?_
 simp(disch:=omega)only[↓RU,RV,RH,↓reduceIte,qE,reduceCtorEq,if_pos,qN,↓RS,RG,qA,qM,qL,hg1,hg2]
 refine zac.pc (ziq hs) rfl (.inl rfl) ?_
 simp(disch:=omega)only[↓RU,RV,RH,↓reduceIte,qE,reduceCtorEq,if_pos,qN,↓RS,RG,qA,qM,qL,hg1,hg2]
 refine zac.pc (zea hs.names) rfl (.inl rfl) ?_
 simp(disch:=omega)only[↓RU,RV,RH,↓reduceIte,qE,reduceCtorEq,if_pos,qN,↓RS,RG,qA,qM,qL,hg1,hg2]
 apply hK;clear hK K
 refine W.cond rfl (fun h=>?_) (fun h=>?_)
 ·try simp only[RL]at h
  exact absurd h (by simp)
 try simp only[RL]at h
 refine W.skip ?_
 refine xn ?_
 refine W.r fun K hK=>?_
 simp(disch:=omega)only[↓RU,RV,RH,↓reduceIte,qE,reduceCtorEq,if_pos,qN,↓RS,RG,qA,qM,qL]
 refine zac.pc (ziq hs) rfl (.inl rfl) ?_
 simp(disch:=omega)only[↓RU,RV,RH,↓reduceIte,qE,reduceCtorEq,if_pos,qN,↓RS,RG,qA,qM,qL]
 apply hK;clear hK K
 refine W.ret ?_
 refine Br rfl ?_
 rw [show zi8 p=(names p,true) by unfold zi8; rw [hg1,hg2]; rfl]
 rfl
theorem zob {p:List Txt} (hs:Sm p) (room:Int) {s:Txt} (hsl:s.length≤1048576) (k:Int):PC Tryz.prog 277 [zai p,.int .i64 room,.str s,.int .i64 k] (.tup [zai (zez p room s k).1,.bool (zez p room s k).2]) false:=by
 have hrb:=zdq p
 refine PC.of ⟨Tryz.func277,by kernel_rfl,rfl,by kernel_rfl⟩ zao mixed (by show 4≤Tryz.f277.ntmps; decide) ?_
 refine W.r fun K hK=>?_
 simp(disch:=omega)only[↓RU,RV,RH,↓reduceIte,qE,reduceCtorEq,if_pos,↓RS,RG,qA,qM,qL]
 apply hK;clear hK K
 refine W.seq ?_
 refine W.r fun K hK=>?_
 simp(disch:=omega)only[↓RU,RV,RH,↓reduceIte,qE,reduceCtorEq,if_pos,qN,↓RS,RG,qA,qM,qL]
 refine zac.pc (z3k hs room) rfl (.inl rfl) ?_
 simp(disch:=omega)only[↓RU,RV,RH,↓reduceIte,qE,reduceCtorEq,if_pos,qN,↓RS,RG,qA,qM,qL]
 apply hK;clear hK K
 refine W.cond rfl (fun h0=>?_) (fun h0=>?_)
 ·try simp only[RL]at h0
  have hgv:(zaz p && (decide (0≤room) && decide (room≤zbo p - 1)))=false:=by simpa using h0
  refine W.r fun K hK=>?_
  simp(disch:=omega)only[↓RU,RV,RH,↓reduceIte,qE,reduceCtorEq,if_pos,qN,↓RS,RG,qA,qM,qL]
  refine zac.pc (zfd) rfl (.inl rfl) ?_
  simp(disch:=omega)only[↓RU,RV,RH,↓reduceIte,qE,reduceCtorEq,if_pos,qN,↓RS,RG,qA,qM,qL]
  apply hK;clear hK K
  refine W.ret ?_
  refine XThen.ret ?_
  refine Br rfl ?_
  first | (rw [zhs hgv]; rfl) | (rw [zht hgv e1 e2 e3 e4 hB1]; rfl) | (rw [zhu hgv e1 e2 e3 e4 hB1 hB2]; rfl) | (rw [zfe hB1 hB2]; rfl)
 try simp only[RL]at h0
 have hgv:(zaz p && (decide (0≤room) && decide (room≤zbo p - 1)))=true:=by simpa using h0
 have hgv2:=hgv
 simp only[qB,decide_eq_true_eq]at hgv2
 obtain ⟨hp,hr0,hr1⟩:=hgv2
 obtain ⟨t,l,h,w,e1,e2,e3,e4,q1,q2,q3,q4⟩:=z9v hp hr0 hr1
 obtain ⟨ps1,ps2,ps3⟩:=zt6 hp
 have hrw:∀ row∈p,row.length=(zal p).length:=fun row hr=>by obtain ⟨i,hi,rfl⟩:=List.getElem_of_mem hr; exact z7p hp (List.getElem?_eq_getElem hi)
 have hw6:(zal p).length≤6:=by obtain ⟨row,hrow,hrm⟩:=zaf ps2; rw [← hrw row hrm]; exact (ps3 row hrm).2
 refine W.skip ?_
 refine xn ?_
 refine W.r fun K hK=>?_
 simp(disch:=omega)only[↓RU,RV,RH,↓reduceIte,qE,reduceCtorEq,if_pos,qN,↓RS,RG,qA,qM,qL,e1,e2,e3,e4]
 refine zac.pc (zxc hs (by omega) room) rfl (.inl rfl) ?_
 simp(disch:=omega)only[↓RU,RV,RH,↓reduceIte,qE,reduceCtorEq,if_pos,qN,↓RS,RG,qA,qM,qL,e1,e2,e3,e4]
 apply hK;clear hK K
 refine W.seq ?_
 refine W.block ?_
 refine W.r fun K hK=>?_
 cases hb1:(s == ([104]:Txt))
 ·skip
  have hB1:((s == [104]) && (decide (1≤k) && decide (k≤zdf p room - 1)))=false:=by rw [hb1]; rfl
  simp(disch:=omega)only[↓RU,RV,RH,↓reduceIte,qE,reduceCtorEq,if_pos,w64,qN,↓RS,RG,qA,qM,qL,zaa,zab,hb1,zn9]
  apply hK;clear hK K
  refine W.cond rfl (fun h1=>?_) (fun h1=>?_)
  ·try simp only[RL]at h1
   exact absurd h1 (by simp)
  try simp only[RL]at h1
  refine W.r fun K hK=>?_
  cases hb2:(s == ([118]:Txt))
  ·skip
   have hB2:((s == [118]) && (decide (1≤k) && decide (k≤zdd p room - 1)))=false:=by rw [hb2]; rfl
   simp(disch:=omega)only[↓RU,RV,RH,↓reduceIte,qE,reduceCtorEq,if_pos,w64,qN,↓RS,RG,qA,qM,qL,zaa,zab,hb2,zn9]
   apply hK;clear hK K
   refine W.cond rfl (fun h2=>?_) (fun h2=>?_)
   ·try simp only[RL]at h2
    exact absurd h2 (by simp)
   try simp only[RL]at h2
   refine W.skip ?_
   refine XbN ?_
   refine xn ?_
   refine W.r fun K hK=>?_
   simp(disch:=omega)only[↓RU,RV,RH,↓reduceIte,qE,reduceCtorEq,if_pos,qN,↓RS,RG,qA,qM,qL]
   refine zac.pc (zfd) rfl (.inl rfl) ?_
   simp(disch:=omega)only[↓RU,RV,RH,↓reduceIte,qE,reduceCtorEq,if_pos,qN,↓RS,RG,qA,qM,qL]
   apply hK;clear hK K
   refine W.ret ?_
   refine Br rfl ?_
   first | (rw [zhs hgv]; rfl) | (rw [zht hgv e1 e2 e3 e4 hB1]; rfl) | (rw [zhu hgv e1 e2 e3 e4 hB1 hB2]; rfl) | (rw [zfe hB1 hB2]; rfl)
  skip
  simp(disch:=omega)only[↓RU,RV,RH,↓reduceIte,qE,reduceCtorEq,if_pos,w64,qN,↓RS,RG,qA,qM,qL,zaa,zab,hb2,zn9]
  refine zac.pc (zm6 _ _ _) rfl (.inl rfl) ?_
  simp(disch:=omega)only[↓RU,RV,RH,↓reduceIte,qE,reduceCtorEq,if_pos,w64,qN,↓RS,RG,qA,qM,qL,zaa,zab,hb2,zn9]
  apply hK;clear hK K
  refine W.cond rfl (fun h2=>?_) (fun h2=>?_)
  ·try simp only[RL]at h2
   have hB2:((s == [118]) && (decide (1≤k) && decide (k≤zdd p room - 1)))=true:=by rw [hb2,e4]; exact h2
   have hk:=h2
   simp only[qB,decide_eq_true_eq]at hk
   obtain ⟨kn,rfl⟩:∃ kn:Nat,k=kn:=⟨k.toNat,by omega⟩
   refine W.r fun K hK=>?_
   simp(disch:=omega)only[↓RU,RV,RH,↓reduceIte,qE,reduceCtorEq,if_pos,w64,qN,↓RS,RG,qA,qM,qL,zaa,show ((l:Int)+(kn:Int))=((l+kn:Nat):Int) from by omega,show ((w:Int) - (kn:Int))=((w - kn:Nat):Int) from by omega]
   refine zac.pc (zu7 hs (tp:=t) (lf:=l+kn) (hg:=h) (wd:=w - kn) (c:=122) (by omega) (fun row hr=>by rw [hrw row hr]; omega)) rfl (.inl rfl) ?_
   simp(disch:=omega)only[↓RU,RV,RH,↓reduceIte,qE,reduceCtorEq,if_pos,w64,qN,↓RS,RG,qA,qM,qL,zaa,show ((l:Int)+(kn:Int))=((l+kn:Nat):Int) from by omega,show ((w:Int) - (kn:Int))=((w - kn:Nat):Int) from by omega]
   refine zac.pc (zqz (zvj hs)) rfl (.inr rfl) ?_
   simp(disch:=omega)only[↓RU,RV,RH,↓reduceIte,qE,reduceCtorEq,if_pos,w64,qN,↓RS,RG,qA,qM,qL,zaa,show ((l:Int)+(kn:Int))=((l+kn:Nat):Int) from by omega,show ((w:Int) - (kn:Int))=((w - kn:Nat):Int) from by omega]
   apply hK;clear hK K
   refine W.ret ?_
   refine XBlock.ret ?_
   refine XThen.ret ?_
   refine Br rfl ?_
   first | (rw [zhs hgv]; rfl) | (rw [zht hgv e1 e2 e3 e4 hB1]; rfl) | (rw [zhu hgv e1 e2 e3 e4 hB1 hB2]; rfl) | (rw [zfe hB1 hB2]; rfl)
  try simp only[RL]at h2
  have hB2:((s == [118]) && (decide (1≤k) && decide (k≤zdd p room - 1)))=false:=by rw [hb2,e4]; exact h2
  refine W.skip ?_
  refine XbN ?_
  refine xn ?_
  refine W.r fun K hK=>?_
  simp(disch:=omega)only[↓RU,RV,RH,↓reduceIte,qE,reduceCtorEq,if_pos,qN,↓RS,RG,qA,qM,qL]
  refine zac.pc (zfd) rfl (.inl rfl) ?_
  simp(disch:=omega)only[↓RU,RV,RH,↓reduceIte,qE,reduceCtorEq,if_pos,qN,↓RS,RG,qA,qM,qL]
  apply hK;clear hK K
  refine W.ret ?_
  refine Br rfl ?_
  first | (rw [zhs hgv]; rfl) | (rw [zht hgv e1 e2 e3 e4 hB1]; rfl) | (rw [zhu hgv e1 e2 e3 e4 hB1 hB2]; rfl) | (rw [zfe hB1 hB2]; rfl)
 skip
 simp(disch:=omega)only[↓RU,RV,RH,↓reduceIte,qE,reduceCtorEq,if_pos,w64,qN,↓RS,RG,qA,qM,qL,zaa,zab,hb1,zn9]
 refine zac.pc (zm6 _ _ _) rfl (.inl rfl) ?_
 simp(disch:=omega)only[↓RU,RV,RH,↓reduceIte,qE,reduceCtorEq,if_pos,w64,qN,↓RS,RG,qA,qM,qL,zaa,zab,hb1,zn9]
 apply hK;clear hK K
 refine W.cond rfl (fun h1=>?_) (fun h1=>?_)
 ·try simp only[RL]at h1
  have hB1:((s == [104]) && (decide (1≤k) && decide (k≤zdf p room - 1)))=true:=by rw [hb1,e3]; exact h1
  have hk:=h1
  simp only[qB,decide_eq_true_eq]at hk
  obtain ⟨kn,rfl⟩:∃ kn:Nat,k=kn:=⟨k.toNat,by omega⟩
  refine W.r fun K hK=>?_
  simp(disch:=omega)only[↓RU,RV,RH,↓reduceIte,qE,reduceCtorEq,if_pos,w64,qN,↓RS,RG,qA,qM,qL,zaa,show ((t:Int)+(kn:Int))=((t+kn:Nat):Int) from by omega,show ((h:Int) - (kn:Int))=((h - kn:Nat):Int) from by omega]
  refine zac.pc (zu7 hs (tp:=t+kn) (lf:=l) (hg:=h - kn) (wd:=w) (c:=122) (by omega) (fun row hr=>by rw [hrw row hr]; omega)) rfl (.inl rfl) ?_
  simp(disch:=omega)only[↓RU,RV,RH,↓reduceIte,qE,reduceCtorEq,if_pos,w64,qN,↓RS,RG,qA,qM,qL,zaa,show ((t:Int)+(kn:Int))=((t+kn:Nat):Int) from by omega,show ((h:Int) - (kn:Int))=((h - kn:Nat):Int) from by omega]
  refine zac.pc (zqz (zvj hs)) rfl (.inr rfl) ?_
  simp(disch:=omega)only[↓RU,RV,RH,↓reduceIte,qE,reduceCtorEq,if_pos,w64,qN,↓RS,RG,qA,qM,qL,zaa,show ((t:Int)+(kn:Int))=((t+kn:Nat):Int) from by omega,show ((h:Int) - (kn:Int))=((h - kn:Nat):Int) from by omega]
  apply hK;clear hK K
  refine W.ret ?_
  refine XBlock.ret ?_
  refine XThen.ret ?_
  refine Br rfl ?_
  first | (rw [zhs hgv]; rfl) | (rw [zht hgv e1 e2 e3 e4 hB1]; rfl) | (rw [zhu hgv e1 e2 e3 e4 hB1 hB2]; rfl) | (rw [zfe hB1 hB2]; rfl)
 try simp only[RL]at h1
 have hB1:((s == [104]) && (decide (1≤k) && decide (k≤zdf p room - 1)))=false:=by rw [hb1,e3]; exact h1
 refine W.r fun K hK=>?_
 cases hb2:(s == ([118]:Txt))
 ·skip
  have hB2:((s == [118]) && (decide (1≤k) && decide (k≤zdd p room - 1)))=false:=by rw [hb2]; rfl
  simp(disch:=omega)only[↓RU,RV,RH,↓reduceIte,qE,reduceCtorEq,if_pos,w64,qN,↓RS,RG,qA,qM,qL,zaa,zab,hb2,zn9]
  apply hK;clear hK K
  refine W.cond rfl (fun h2=>?_) (fun h2=>?_)
  ·try simp only[RL]at h2
   exact absurd h2 (by simp)
  try simp only[RL]at h2
  refine W.skip ?_
  refine XbN ?_
  refine xn ?_
  refine W.r fun K hK=>?_
  simp(disch:=omega)only[↓RU,RV,RH,↓reduceIte,qE,reduceCtorEq,if_pos,qN,↓RS,RG,qA,qM,qL]
  refine zac.pc (zfd) rfl (.inl rfl) ?_
  simp(disch:=omega)only[↓RU,RV,RH,↓reduceIte,qE,reduceCtorEq,if_pos,qN,↓RS,RG,qA,qM,qL]
  apply hK;clear hK K
  refine W.ret ?_
  refine Br rfl ?_
  first | (rw [zhs hgv]; rfl) | (rw [zht hgv e1 e2 e3 e4 hB1]; rfl) | (rw [zhu hgv e1 e2 e3 e4 hB1 hB2]; rfl) | (rw [zfe hB1 hB2]; rfl)
 skip
 simp(disch:=omega)only[↓RU,RV,RH,↓reduceIte,qE,reduceCtorEq,if_pos,w64,qN,↓RS,RG,qA,qM,qL,zaa,zab,hb2,zn9]
 refine zac.pc (zm6 _ _ _) rfl (.inl rfl) ?_
 simp(disch:=omega)only[↓RU,RV,RH,↓reduceIte,qE,reduceCtorEq,if_pos,w64,qN,↓RS,RG,qA,qM,qL,zaa,zab,hb2,zn9]
 apply hK;clear hK K
 refine W.cond rfl (fun h2=>?_) (fun h2=>?_)
 ·try simp only[RL]at h2
  have hB2:((s == [118]) && (decide (1≤k) && decide (k≤zdd p room - 1)))=true:=by rw [hb2,e4]; exact h2
  have hk:=h2
  simp only[qB,decide_eq_true_eq]at hk
  obtain ⟨kn,rfl⟩:∃ kn:Nat,k=kn:=⟨k.toNat,by omega⟩
  refine W.r fun K hK=>?_
  simp(disch:=omega)only[↓RU,RV,RH,↓reduceIte,qE,reduceCtorEq,if_pos,w64,qN,↓RS,RG,qA,qM,qL,zaa,show ((l:Int)+(kn:Int))=((l+kn:Nat):Int) from by omega,show ((w:Int) - (kn:Int))=((w - kn:Nat):Int) from by omega]
  refine zac.pc (zu7 hs (tp:=t) (lf:=l+kn) (hg:=h) (wd:=w - kn) (c:=122) (by omega) (fun row hr=>by rw [hrw row hr]; omega)) rfl (.inl rfl) ?_
  simp(disch:=omega)only[↓RU,RV,RH,↓reduceIte,qE,reduceCtorEq,if_pos,w64,qN,↓RS,RG,qA,qM,qL,zaa,show ((l:Int)+(kn:Int))=((l+kn:Nat):Int) from by omega,show ((w:Int) - (kn:Int))=((w - kn:Nat):Int) from by omega]
  refine zac.pc (zqz (zvj hs)) rfl (.inr rfl) ?_
  simp(disch:=omega)only[↓RU,RV,RH,↓reduceIte,qE,reduceCtorEq,if_pos,w64,qN,↓RS,RG,qA,qM,qL,zaa,show ((l:Int)+(kn:Int))=((l+kn:Nat):Int) from by omega,show ((w:Int) - (kn:Int))=((w - kn:Nat):Int) from by omega]
  apply hK;clear hK K
  refine W.ret ?_
  refine XBlock.ret ?_
  refine XThen.ret ?_
  refine Br rfl ?_
  first | (rw [zhs hgv]; rfl) | (rw [zht hgv e1 e2 e3 e4 hB1]; rfl) | (rw [zhu hgv e1 e2 e3 e4 hB1 hB2]; rfl) | (rw [zfe hB1 hB2]; rfl)
 try simp only[RL]at h2
 have hB2:((s == [118]) && (decide (1≤k) && decide (k≤zdd p room - 1)))=false:=by rw [hb2,e4]; exact h2
 refine W.skip ?_
 refine XbN ?_
 refine xn ?_
 refine W.r fun K hK=>?_
 simp(disch:=omega)only[↓RU,RV,RH,↓reduceIte,qE,reduceCtorEq,if_pos,qN,↓RS,RG,qA,qM,qL]
 refine zac.pc (zfd) rfl (.inl rfl) ?_
 simp(disch:=omega)only[↓RU,RV,RH,↓reduceIte,qE,reduceCtorEq,if_pos,qN,↓RS,RG,qA,qM,qL]
 apply hK;clear hK K
 refine W.ret ?_
 refine Br rfl ?_
 first | (rw [zhs hgv]; rfl) | (rw [zht hgv e1 e2 e3 e4 hB1]; rfl) | (rw [zhu hgv e1 e2 e3 e4 hB1 hB2]; rfl) | (rw [zfe hB1 hB2]; rfl)
end Fw
end Go.Proofs.YtclbmeloiefbaaaGreatDoor
