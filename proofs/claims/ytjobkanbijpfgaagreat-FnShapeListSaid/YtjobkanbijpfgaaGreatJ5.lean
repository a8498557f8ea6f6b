/- Parts of the framework and of the proof: The framework, part ha: loops over functions: yield's contract out of the body's walk, and the statement; The framework, part hb: a region in which two variables are made, either of them ahead of the other; The cuts of a part, and the first one, gone through; Cuts in the specification, gone through; Cut trees, gone down; what is told along them; Texts along cuts and widths along cuts in the specification, gone through; What comes of parts along first cuts, gone through; Best shapes along cuts; The least shapes in plain words; Best shapes along cuts by the program, gone through; Is a plan cuttable: the program, gone through; All best shapes by the program, gone through; Lists of rows that may be written; What holds of all arguments holds of frozen ones; Best shapes: what the laws want; The laws of best shapes, gone through; All best shapes as rows that may be written; their marks; Widths and texts along cuts, gone through; Widths along cuts in the specification; is a plan cuttable: gone through; Best shapes along cuts: both sides, gone through; The laws of places and slack, gone through; All best shapes exactly: the law gone through; Best shapes along cuts in the specification; their exact law: gone through; The law of shapes along cuts exactly, gone through. -/
import Derived.Test.YtjobkanbijpfgaaGreatJ1
import Derived.Test.YtjobkanbijpfgaaGreatJ4
import Derived.Test.YtjobkanbijpfgaaGreatJ2
import Derived.Test.YtjobkanbijpfgaaGreatJ3
set_option linter.all false
namespace Go.Proofs.YtjobkanbijpfgaaGreat
namespace Fw
open Go
open Nat renaming reduceEqDiff → qE, reduceLeDiff → qL, reduceAdd → qA, reduceMul → qM, le_refl → qR
open List renaming append_nil → qN, mapM_append → qP, mapM_cons → qC, mapM_map → qU, range_succ → qS, take_of_length_le → qT
open Bool renaming and_eq_true → qB, false_eq_true → qF
open Option renaming map_some → qO, map_eq_some_iff → qI
open Int renaming reduceToNat → qZ
section
structure LoopR (ps:Array Tmp) (asg body:Code) (r:Loop):Prop where
 hps:r.params=ps
 hasg:r.assign=asg
 hbody:r.body=body
 dps:∀ t∈ps.toList,t<r.tmps.size
 dasg:zhs r.tmps.size asg=true
 dbody:zhs r.tmps.size body=true
def Env.puts:List (Nat × PV)→Env→Env
 | [],e=>e
 | (t,v)::r,e=>Env.puts r (e.put (some t) v)
section
variable {P:Program} {T:Tab} {Q Q':Exit→Env→Store→Prop} {e:Env} {S:Store} {a b c:Code} {F:Nat→Prop} {G:GSt} {w:World}
theorem zxx {ds:List Deferred}:∀ (ps:List Nat) (xs:List PV) (cs:List Value) (e:Env) (t:Array Value),zfk w.heap F G e ⟨t,ds⟩→(∀ p∈ps,p<t.size)→xs.length=cs.length →
  (∀ (i:Nat) p c,xs[i]?=some p→cs[i]?=some c→VR w.heap F G p c) →
  zfk w.heap F G (Env.puts (ps.zip xs) e) ⟨(ps.zip cs).foldl (fun t (q:Nat × Value)=>t.setIfInBounds q.1 q.2) t,ds⟩
 | [],xs,cs,e,t,he,_,_,_=>by simpa [Env.puts] using he
 | p::ps,[],[],e,t,he,_,_,_=>by simpa [Env.puts] using he
 | p::ps,x::xs,c::cs,e,t,he,hp,hl,hv=>by
  simp only[List.zip_cons_cons,Env.puts,List.foldl_cons]
  refine zxx ps xs cs _ _ ?_ ?_ (by simpa using hl) fun i p c q1 q2=>hv (i+1) p c (by simpa using q1) (by simpa using q2)
  ·have:=he.put (a:=⟨t,ds⟩) (some p) (v:=x) (cv:=c) (fun t' ht=>by cases ht; exact hp p (by simp)) (hv 0 x c rfl rfl)
   exact this
  intro q hq
  have:=hp q (by simp [hq])
  simpa using this
 | p::ps,[],c::cs,_,_,_,_,hl,_=>by simp at hl
 | p::ps,x::xs,[],_,_,_,_,hl,_=>by simp at hl
theorem z5d (l:List (Nat × Value)) (t:Array Value):(l.foldl (fun t (q:Nat × Value)=>t.setIfInBounds q.1 q.2) t).size=t.size:=by
 induction l generalizing t with
 | nil=>rfl
 | cons q l ih=>simp [ih]
theorem z9w (hi:Inv F G w) {o ver l:Nat} {r:Loop × List Nat} {tm:List PV} {lc:Lc} (ho:G.obs[o]?=some (.lp ver l r tm,lc)) (s:LoopState) (pe:Option Code) :
  ∃ t:Array Value,w.heap[l]?=some (.loop { r.1 with tmps:=t }) ∧
   Inv F ⟨G.obs.set o (.lp ver l ({ r.1 with state:=s,pending:=pe },r.2) tm,lc),G.tick⟩ (w.putObj l (.loop { r.1 with tmps:=t,state:=s,pending:=pe })) ∧
   Next F G w F ⟨G.obs.set o (.lp ver l ({ r.1 with state:=s,pending:=pe },r.2) tm,lc),G.tick⟩ (w.putObj l (.loop { r.1 with tmps:=t,state:=s,pending:=pe })):=by
 obtain ⟨h0,t,h1,h2,h3⟩:=hi.lp o ver l r tm lc ho
 have hlt:=(Array.getElem?_eq_some_iff.1 h1).1
 refine ⟨t,h1,zkf hi ho _ lc G.tick _ rfl rfl rfl (qR _) (by simp) (.inl rfl) (fun b hb hne=>World.putObj_heap_other (by rw [← h0]; exact hne)) (qR _) (show Ob.ver (.lp ver l r tm)<G.tick from hi.ver o _ lc ho)
  (.inl ⟨rfl,trivial,rfl⟩) ⟨h0,t,World.putObj_heap_same hlt,h2,h3⟩⟩
def yhc (o l:Nat) (J:PV→Store→Prop):Exit→Env→Store→Prop
 | .normal,_,S=>∃ ver r L tm k,S.obs[o]?=some (.lp ver l (r,L) tm)∧J (.bool true) (Store.take ⟨S.obs.set o (.lp ver l ({ r with state := .ready,pending:=none },L) tm),S.tick⟩ k)
 | .ret,_,S=>∃ ver r L tm k,S.obs[o]?=some (.lp ver l (r,L) tm)∧J (.bool false) (Store.take ⟨S.obs.set o (.lp ver l ({ r with state := .done,pending:=some .ret },L) tm),S.tick⟩ k)
 | .exit id,_,S=>∃ ver r L tm k,S.obs[o]?=some (.lp ver l (r,L) tm)∧J (.bool false) (Store.take ⟨S.obs.set o (.lp ver l ({ r with state := .done,pending:=some (.exit id) },L) tm),S.tick⟩ k)
 | _,_,_=>False
theorem VR.bool_of {H:Array Obj} {b:Bool}:VR H F G (.bool b) (.bool b) := .imm _ _ (.bool b)
theorem Ey.of (hT:zcd P T) (hm:P.follows .mixedOrders=true) {l o ver:Nat} {r:Loop} {L:List Nat} {tm xs:List PV} {ps:Array Tmp} {asg body:Code} {J:PV→Store→Prop}
  (ho:S.obs[o]?=some (.lp ver l (r,L) tm)) (hr:LoopR ps asg body r) (hst:r.state = .ready) (hps:ps.size=xs.length)
  (hw:W P T asg (XThen (fun e1 S1=>∃ ver1 r1 L1 tm1,S1.obs[o]?=some (.lp ver1 l (r1,L1) tm1)∧r1.state = .ready ∧
   W P T body (yhc o l J) e1 ⟨S1.obs.set o (.lp ver1 l ({ r1 with state := .busy,pending:=r1.pending },L1) tm1),S1.tick⟩) (fun _ _ _=>False)) (Env.puts (ps.toList.zip xs) (Env.of L tm)) S) :
  Ey P l xs S J:=by
 refine ⟨fun F G w cargs hS hi hl hv=>?_⟩
 subst hS
 obtain ⟨lc,hG⟩:=zgm ho
 obtain ⟨h0,t,h1,⟨h2,h2'⟩,h3⟩:=hi.lp o ver l (r,L) tm lc hG
 simp only at h1 h2 h2' h3
 refine ⟨_,_,_,_,run_yield h1 (by simp only; rw [hr.hps]; omega),fun R nn=>?_⟩
 refine roundIn_of_wpIn trivial ?_
 simp only
 have hE:zfk w.heap F G (Env.puts (ps.toList.zip xs) (Env.of L tm)) ⟨(ps.toList.zip cargs.toList).foldl (fun t (q:Nat × Value)=>t.setIfInBounds q.1 q.2) t,[]⟩ :=
  zxx _ _ _ _ _ (zv1 L tm h2'.symm fun i j v q1 q2=>h3 i v j q2 q1) (fun p hp=>Nat.lt_of_lt_of_eq (hr.dps p hp) h2.symm) (by simpa using hl) (fun i p c q1 q2=>hv i p c q1 (by simpa using q2))
 have hsz:((ps.toList.zip cargs.toList).foldl (fun t (q:Nat × Value)=>t.setIfInBounds q.1 q.2) t).size=r.tmps.size:=by rw [z5d]; exact h2
 have hfold:(r.params.zip cargs).foldl (fun tmps (x:Nat × Value)=>tmps.setIfInBounds x.1 x.2) t=(ps.toList.zip cargs.toList).foldl (fun t (q:Nat × Value)=>t.setIfInBounds q.1 q.2) t:=by
  rw [hr.hps,← Array.foldl_toList,Array.toList_zip]
 show (r.assign).wpIn (fnc (some l)) _ P _ { tmps:=(r.params.zip cargs).foldl (fun tmps (x:Nat × Value)=>tmps.setIfInBounds x.1 x.2) t,defers:=[] } w
 rw [hfold,hr.hasg,hr.hbody]
 refine wpIn_mono (hw.run hT hm F G w r.tmps.size F G _ w rfl hi hE (Next.refl w) hsz Marks.nil hr.dasg) ?_
 rintro x a1 w1 ⟨e1,F1,G1,k1,k2,k3,k4,k5,k6⟩
 cases x with
 | normal =>
  obtain ⟨ver1,r1,L1,tm1,g1,g2,g3⟩:=k1
  obtain ⟨lc1,hG1⟩:=zgm g1
  obtain ⟨t1,q1,q2,q3⟩:=z9w k2 hG1 .busy r1.pending
  refine ⟨_,run_beginRound q1 g2,?_⟩
  refine wpIn_mono (g3.run hT hm F G w r.tmps.size F1 _ a1 _ (zo7 G1 o _ lc1 G1.tick) q2 (k3.next k2 q3) (k4.trans q3) k5 (k6.next k2 q3) hr.dbody) ?_
  have fin:∀ {F2:Nat→Prop} {G2:GSt} {w2:World} {v:Bool} {s:LoopState} {pe:Option Code} {ver2:Nat} {r2:Loop} {L2:List Nat} {tm2:List PV} {k:Nat},Inv F2 G2 w2→Next F G w F2 G2 w2 →
    s=(if pe.isNone then .ready else .done)→v=pe.isNone→G2.er.obs[o]?=some (.lp ver2 l (r2,L2) tm2) →
    J (.bool v) (Store.take ⟨G2.er.obs.set o (.lp ver2 l ({ r2 with state:=s,pending:=pe },L2) tm2),G2.er.tick⟩ k) →
    ∃ cv w3,(Instr.endRound l pe).run P w2 = .ok cv w3∧∃ v cv' F' G',Ending.returned cv = .returned cv'∧J v G'.er∧Inv F' G' w3∧Next F G w F' G' w3∧VR w3.heap F' G' v cv':=by
   intro F2 G2 w2 v s pe ver2 r2 L2 tm2 k i2 n2 hs hv2 hg hJ
   obtain ⟨lc2,hG2⟩:=zgm hg
   obtain ⟨t2,p1,p2,p3⟩:=z9w i2 hG2 s pe
   obtain ⟨i3,n3⟩:=zgx p2 k
   have hrun:=run_endRound (P:=P) pe p1
   rw [← hs]at hrun
   refine ⟨_,_,hrun,.bool v,_,F2,GSt.take ⟨G2.obs.set o (.lp ver2 l ({ r2 with state:=s,pending:=pe },L2) tm2,lc2),G2.tick⟩ k,rfl,?_,i3,(n2.trans p3).trans n3,by rw [← hv2]; exact VR.bool_of⟩
   rw [zmc,zo7]; exact hJ
  rintro x a2 w2 ⟨e2,F2,G2,j1,j2,j3,j4,j5,j6⟩
  cases x with
  | normal=>obtain ⟨ver2,r2,L2,tm2,k,f1,f2⟩:=j1; exact fin j2 j4 rfl rfl f1 f2
  | ret=>obtain ⟨ver2,r2,L2,tm2,k,f1,f2⟩:=j1; exact fin j2 j4 rfl rfl f1 f2
  | exit id=>obtain ⟨ver2,r2,L2,tm2,k,f1,f2⟩:=j1; exact fin j2 j4 rfl rfl f1 f2
  | _=>exact j1.elim
 | _=>exact k1.elim
structure V (P:Program) (T:Tab) (c:Code) (Q:Exit→Env→Store→Prop) (e:Env) (S:Store):Prop where
 run:zcd P T→P.follows .mixedOrders=true→∀ (F0:Nat→Prop) (G0:GSt) (w0:World) (N:Nat) (F:Nat→Prop) (G:GSt) (a:Act) (w:World),G.er=S→Inv F G w→zfk w.heap F G e a →
  Next F0 G0 w0 F G w→a.tmps.size=N→Marks w0 a.defers w→zhs N c=true→c.wpIn (fnc none) 0 P (Sto F0 G0 w0 N Q) a w
theorem W.v (h:W P T c Q e S):V P T c Q e S:=⟨fun h1 h2 F0 G0 w0 N F G a w h3 h4 h5 h6 h7 h8 h9=>h.run h1 h2 F0 G0 w0 N F G a w h3 h4 h5 h6 h7 h8 h9⟩
theorem V.mono (h:V P T c Q e S) (k:∀ x e S,Q x e S→Q' x e S):V P T c Q' e S :=
 ⟨fun h1 h2 F0 G0 w0 N F G a w h3 h4 h5 h6 h7 h8 h9=>wpIn_mono (h.run h1 h2 F0 G0 w0 N F G a w h3 h4 h5 h6 h7 h8 h9) fun _ _ _=>Sto.mono k⟩
theorem V.seq (h:V P T a (XThen (V P T b Q) Q) e S):V P T (.seq a b) Q e S:=by
 refine ⟨?_⟩
 intro hT hm F0 G0 w0 N F G a w h3 h4 h5 h6 h7 h8 h9
 simp only[zhs,qB]at h9
 refine wpIn_seq (wpIn_mono (h.run hT hm F0 G0 w0 N F G a w h3 h4 h5 h6 h7 h8 h9.1) ?_)
 rintro x a' w' ⟨e',F',G',k1,k2,k3,k4,k5,k6⟩
 cases x with
 | normal=>exact k1.run hT hm F0 G0 w0 N F' G' a' w' rfl k2 k3 k4 k5 k6 h9.2
 | _=>exact ⟨e',F',G',k1,k2,k3,k4,k5,k6⟩
theorem V.seq_region {id:Nat} {l:List Oper} (h:∀ K:Env→Store→Prop,(∀ e S,V P T b Q e S→K e S)→zb7 false P T (dsts l) l e S K):V P T (.seq (.region id l.toArray false) b) Q e S :=
 V.seq (W.v (W.k fun K hK=>h K hK))
theorem V.seq_draw {id:Nat} {l:List Oper} (hc:zil l.toArray (List.range' 0 l.length) (zlj l 0) []=true) (h:∀ K:Env→Store→Prop,(∀ e S,V P T b Q e S→K e S)→zb7 true P T (dsts l) l e S K) :
  V P T (.seq (.region id l.toArray true) b) Q e S :=
 V.seq (W.v (W.draw_k hc fun K hK=>h K hK))
theorem V.seq_drawE {id:Nat} {l:List Oper} (hc:zil l.toArray (List.range' 0 l.length) (zco l 0) []=true) (h:∀ K:Env→Store→Prop,(∀ e S,V P T b Q e S→K e S)→zb7 false P T (dsts l) l e S K) :
  V P T (.seq (.region id l.toArray true) b) Q e S :=
 V.seq (W.v (W.drawE_k hc fun K hK=>h K hK))
theorem V.cond {x:Operand} {t:Bool} (hc:e.ev x = .bool t) (h1:t=true→V P T a Q e S) (h2:t=false→V P T b Q e S):V P T (.cond x a b) Q e S:=by
 refine ⟨?_⟩
 intro hT hm F0 G0 w0 N F G a w h3 h4 h5 h6 h7 h8 h9
 simp only[zhs,qB]at h9
 have:=h5.ev x
 rw [hc]at this
 exact wpIn_cond_split this.bool (fun ht=>(h1 ht).run hT hm F0 G0 w0 N F G a w h3 h4 h5 h6 h7 h8 h9.1) (fun ht=>(h2 ht).run hT hm F0 G0 w0 N F G a w h3 h4 h5 h6 h7 h8 h9.2)
theorem V.block {id:Nat} (h:V P T c (XBlock id Q) e S):V P T (.block id c) Q e S:=by
 refine ⟨?_⟩
 intro hT hm F0 G0 w0 N F G a w h3 h4 h5 h6 h7 h8 h9
 refine wpIn_block (wpIn_mono (h.run hT hm F0 G0 w0 N F G a w h3 h4 h5 h6 h7 h8 h9) ?_)
 rintro x a' w' ⟨e',F',G',k1,k2⟩
 cases x with
 | exit i =>
  simp only[Exit.inBlock]
  simp only[XBlock]at k1
  split
  ·rename_i hi; rw [if_pos hi]at k1; exact ⟨e',F',G',k1,k2⟩
  rename_i hi; rw [if_neg hi]at k1; exact ⟨e',F',G',k1,k2⟩
 | _=>exact ⟨e',F',G',k1,k2⟩
def yfx:Option Code→Option Exit
 | none=>some .normal
 | some .ret=>some .ret
 | some (.exit id)=>some (.exit id)
 | _=>none
theorem z0k (hi:Inv F G w) (ob:Obj):Inv F G (w.alloc ob)∧Next F G w F G (w.alloc ob):=by
 have hkeep:∀ b,b<w.heap.size→(w.alloc ob).heap[b]?=w.heap[b]?:=fun b hb=>Go.RowKit.Below.heap_alloc w ob b hb
 have hn:Next F G w F G (w.alloc ob) :=
  ⟨rfl,rfl,rfl,by simp,fun _ h=>h,fun _ h => .inl h,fun o x h => .inr ⟨o,x,h,rfl⟩,qR _,fun b hb _=>hkeep b hb,fun _ ob' _ h _=>⟨ob',h,rfl,Ob.like.refl _⟩,qR _⟩
 exact ⟨zll (fun b hb=>Nat.lt_of_lt_of_le (hi.fr b hb) hn.size) hi.ver hi.nF (fun o ob' l h=>(hi.holds h).next hi hn (hkeep _ (hi.blk_lt h))) hi.inj,hn⟩
theorem VR.fn_at {f:FuncId} {cap:List PV} {v:Value} (h:VR w.heap F G (.fn f cap) v):∃ vs:Array Value,v = .func (.func f) #[] vs∧cap.length=vs.size∧∀ (i:Nat) p c,cap[i]?=some p→vs[i]?=some c→VR w.heap F G p c:=by
 cases h with
 | imm _ _ h=>cases h with | fn _ _ vs h1 h2=>exact ⟨vs,rfl,h1,fun i p c q1 q2 => .imm _ _ (h2 i p c q1 q2)⟩
 | fn _ _ vs h1 h2=>exact ⟨vs,rfl,h1,h2⟩
theorem V.rangeFunc {g:Operand} {ps:Array Tmp} {asg body:Code} (L:List Nat) {f:FuncId} {cap:List PV} (hg:e.ev g = .fn f cap)
  (h:∀ (l:Nat) (r:Loop),LoopR ps asg body r→r.state = .ready→r.pending=none→∃ J,Ev P f (.yl l::cap) ⟨S.obs++[.lp S.tick l (r,L) (L.map e)],S.tick+1⟩ J ∧
   ∀ v S',J v S'→∃ ver r' L' tm x,S'.obs[S.obs.length]?=some (.lp ver l (r',L') tm)∧r'.state ≠ .busy∧yfx r'.pending=some x∧Q x e (S'.take S.obs.length)) :
  V P T (.rangeFunc g ps asg body) Q e S:=by
 refine ⟨?_⟩
 intro hT hm F0 G0 w0 N F G a w h3 h4 h5 h6 h7 h8 h9
 subst h3
 simp only[zhs,qB,List.all_eq_true,decide_eq_true_eq]at h9
 obtain ⟨⟨d1,d2⟩,d3⟩:=h9
 refine wpIn_rangeFunc ?_
 intro fn _
 obtain ⟨rec,hrec⟩:∃ rec:Loop,rec={ state := .ready,pending:=none,fn,tmps:=a.tmps,params:=ps,assign:=asg,body,defers:=w.heap.size }:=⟨_,rfl⟩
 obtain ⟨i1,n1⟩:=z0k h4 (.deferred (some []))
 obtain ⟨W0,hW0⟩:∃ W0,w.alloc (.deferred (some []))=W0:=⟨_,rfl⟩
 have hsz:W0.heap.size=w.heap.size+1:=by rw [← hW0]; simp
 rw [hW0]at i1 n1
 have hdef:W0.heap[w.heap.size]?=some (.deferred (some [])):=by rw [← hW0]; exact World.alloc_heap_new w _
 obtain ⟨W1,hW1⟩:∃ W1,W0.alloc (.loop rec)=W1:=⟨_,rfl⟩
 have hL1:W1.heap[W0.heap.size]?=some (.loop rec):=by rw [← hW1]; exact World.alloc_heap_new W0 _
 have hhold:Holds W0.heap F G W1.heap (.lp G.tick W0.heap.size (rec,L) (L.map e)) ⟨W0.heap.size,0⟩:=by
  refine ⟨rfl,a.tmps,by rw [hL1,hrec],⟨by rw [hrec],by simp⟩,fun i p j q1 q2=>?_⟩
  simp only at q2
  rw [List.getElem?_map,q2]at q1
  cases q1
  exact (h5 j).next h4 n1
 obtain ⟨i2,n2⟩:=zqd i1 (.lp G.tick W0.heap.size (rec,L) (L.map e)) 0 W1 W1.drawn (by rw [← hW1]; rfl) (by rw [← hW1]; exact qR _) ⟨_,by rw [← hW1]; rfl⟩ rfl hhold
 have n12:=n1.trans n2
 have hgv:=h5.ev g
 rw [hg]at hgv
 obtain ⟨vs,hge,hvl,hvr⟩:=hgv.fn_at
 obtain ⟨J,hev,hJ⟩:=h W0.heap.size rec (by rw [hrec]; exact ⟨rfl,rfl,rfl,fun t ht=>by rw [h7]; exact d1 t ht,by rw [h7]; exact d2,by rw [h7]; exact d3⟩) (by rw [hrec]) (by rw [hrec])
 refine ⟨w.heap.size+1,[{ target := .collected w.heap.size,args := #[] }],W1,{ target := .fn (.func f) vs,args := #[.func (.yield (w.heap.size+1)) #[] #[]] },W1,f,
  #[.func (.yield (w.heap.size+1)) #[] #[]]++vs,W1,?_,?_,fun _ _=>trivial,?_,fun q=>(by simp [Fence.wide]at q),?_⟩
 ·rw [← hW1,← hW0,hrec]; exact run_enterLoop_outer _ _ _ _ _
 ·simp only[resolve,hge]
  simp [go_sem]
 ·simp only[invoke]; exact hev.ent _ _
 ·refine callsIn_wide.2 ((hev.run F _ W1 _ (zvk G _ _) i2 (by simp; omega) ?_).mono ?_)
  ·intro i p c q1 q2
   cases i with
   | zero=>rw [Array.getElem?_append_left (by simp)]at q2; simp at q1 q2; subst q1; subst q2; rw [hsz]; exact .imm _ _ (.yl _)
   | succ i =>
    simp only[List.getElem?_cons_succ]at q1
    rw [Array.getElem?_append_right (by simp)]at q2
    simp at q2
    exact (hvr i p c q1 q2).next h4 n12
  ·rintro en w2 ⟨v,cv,F2,G2,rfl,j1,j2,j3,j4⟩
   obtain ⟨ver,r',L',tm,x,g1,g2,g3,g4⟩:=hJ v _ j1
   obtain ⟨lc,hG2⟩:=zgm g1
   rw [show (GSt.er G).obs.length=G.obs.length by simp [GSt.er]]at hG2 g4
   obtain ⟨t,p1,p2,p3⟩:=z9w j2 hG2 .exhausted r'.pending
   obtain ⟨i3,n3⟩:=zgx p2 G.obs.length
   rw [hsz]at p1
   refine ⟨_,_,run_endLoop p1 g2,?_⟩
   have hnx:=((h6.trans n12).trans (j3.trans p3)).trans n3
   have hmk:Marks w0 ([{ target := .collected w.heap.size,args := #[] }]++a.defers) (w2.putObj W0.heap.size (.loop { r' with tmps:=t,state := .exhausted,pending:=r'.pending })):=by
    have m1:=h8.next h4 n12
    have hd1:W1.heap[w.heap.size]?=some (.deferred (some [])):=(by rw [← hW1]; exact (Go.RowKit.Below.heap_alloc W0 _ _ (by omega)).trans hdef)
    have m2:Marks w0 ([{ target := .collected w.heap.size,args := #[] }]++a.defers) W1:=by
     obtain ⟨bs,b1,b2,b3⟩:=h8
     obtain ⟨bs',c1,c2,c3⟩:=m1
     have hb:bs'=bs:=by
      rw [b1]at c1
      have:=congrArg (List.map fun d:Deferred=>(match d.target with | .collected b=>b | _=>0)) c1
      simpa [List.map_map,Function.comp_def] using this.symm
     subst hb
     refine ⟨w.heap.size::bs',by rw [b1]; simp,?_,?_⟩
     ·refine List.nodup_cons.2 ⟨fun hm=>?_,b2⟩
      have:=(Array.getElem?_eq_some_iff.1 (b3 _ hm).2).1
      omega
     intro b hb
     rcases List.mem_cons.1 hb with rfl | hb
     ·exact ⟨h6.size,hd1⟩
     exact c3 b hb
    exact (m2.next i2 j3).next j2 p3
   have henv:zfk (w2.putObj W0.heap.size (.loop { r' with tmps:=t,state := .exhausted,pending:=r'.pending })).heap F2 (GSt.take ⟨G2.obs.set G.obs.length (.lp ver W0.heap.size ({ r' with state := .exhausted,pending:=r'.pending },L') tm,lc),G2.tick⟩ G.obs.length) e { a with defers:=[{ target := .collected w.heap.size,args := #[] }]++a.defers } :=
    fun k=>((((h5 k).next h4 n12).next i2 j3).next j2 p3).next p2 n3
   have hst:Sto F0 G0 w0 N Q x { a with defers:=[{ target := .collected w.heap.size,args := #[] }]++a.defers } (w2.putObj W0.heap.size (.loop { r' with tmps:=t,state := .exhausted,pending:=r'.pending })):=by
    refine ⟨e,F2,_,?_,i3,henv,hnx,h7,hmk⟩
    have:(GSt.take ⟨G2.obs.set G.obs.length (.lp ver W0.heap.size ({ r' with state := .exhausted,pending:=r'.pending },L') tm,lc),G2.tick⟩ G.obs.length).er=G2.er.take G.obs.length:=by
     simp [GSt.take,GSt.er,Store.take,List.take_set_of_le]
    rw [this]; exact g4
   rw [hsz]at hst
   cases hpe:r'.pending with
   | none=>rw [hpe]at g3 hst ; simp only[yfx]at g3; cases g3; exact hst
   | some c =>
    rw [hpe]at g3 hst
    cases c <;> simp only[yfx]at g3 <;> cases g3
    ·exact wpIn_exit hst
    exact wpIn_ret hst
theorem Fn.callsV {f:FuncId} {fn:Func} (h:Fn P f fn c) (hT:zcd P T) (hm:P.follows .mixedOrders=true) {args:List PV} {K:PV→Store→Prop} (hn:args.length≤fn.ntmps)
  (hw:V P T c (zis T fn.results.toList K) (zad args) S) {F:Nat→Prop} {G:GSt} {w:World} {cargs:Array Value} (hS:G.er=S) (hi:Inv F G w) (hl:args.length=cargs.size)
  (hv:∀ (i:Nat) p c,args[i]?=some p→cargs[i]?=some c→VR w.heap F G p c) :
  Calls P f cargs w fun e w'=>∃ v cv F' G',e = .returned cv∧K v G'.er∧Inv F' G' w'∧Next F G w F' G' w'∧VR w'.heap F' G' v cv :=
 h.calls_of hT hn hi hl (hw.run hT hm F G w fn.ntmps F G _ w hS hi (z6v hl hv _ _) (Next.refl w) (by simp; omega) Marks.nil h.dst)
theorem Ev.ofV {f:FuncId} {fn:Func} (h:Fn P f fn c) (hT:zcd P T) (hm:P.follows .mixedOrders=true) {args:List PV} {J:PV→Store→Prop} (hn:args.length≤fn.ntmps)
  (hw:V P T c (zis T fn.results.toList fun v S1=>∃ k,J v (S1.take k)) (zad args) S):Ev P f args S J:=by
 refine ⟨h.ent,fun F G w cargs hS hi hl hv=>(h.callsV hT hm hn hw hS hi hl hv).mono ?_⟩
 rintro en w' ⟨v',cv,F',G',k1,⟨k,k2⟩,k3,k4,k5⟩
 obtain ⟨i1,i2⟩:=zgx k3 k
 exact ⟨v',cv,F',G'.take k,k1,(zmc G' k).symm ▸ k2,i1,k4.trans i2,k5.next k3 i2⟩
theorem PC.ofV {f:FuncId} {fn:Func} (h:Fn P f fn c) (hT:zcd P T) (hm:P.follows .mixedOrders=true) {args:List PV} {r:PV} {fr:Bool} (hn:args.length≤fn.ntmps)
  (hw:V P T c (zis T fn.results.toList fun v S=>reify S (!fr) 10 v=some r) (zad args) ⟨[],0⟩):PC P f args r fr:=by
 refine ⟨h.ent,fun F w cargs hF hl hv=>?_⟩
 have hi:Inv F ⟨[],0⟩ w:=⟨hF,by simp,by simp,by simp,by simp,by simp,by simp⟩
 refine (h.callsV hT hm hn hw rfl hi hl fun i p c q1 q2 => .imm _ _ (hv i p c q1 q2)).mono ?_
 rintro en w' ⟨v',cv,F',G',rfl,k2,k3,k4,k5⟩
 refine ⟨cv,rfl,⟨⟨k4.os,k4.tape,k4.output,k4.size,fun b hb=>k4.keep b hb (by simp)⟩,k4.drawn⟩,(zep k3 k5 k2).mono ?_ (fun _ _=>rfl)⟩
 rintro b (⟨h1,h2⟩ | ⟨o,x,hx,rfl⟩)
 ·rcases k4.fnew b h2 with h3 | h3 | ⟨o,x,hx,_⟩
  ·exact .inr ⟨by simpa using h1,h3⟩
  ·exact .inl ⟨h3,k3.fr b h2⟩
  simp at hx
 rcases k4.gnew o x hx with h3 | ⟨o',y,hy,_⟩
 ·exact .inl ⟨h3,k3.blk_lt hx⟩
 simp at hy
end
end
section
section
variable {P:Program} {T:Tab} {F0:Nat→Prop} {G0:GSt} {w0:World} {N:Nat}
theorem z9g {e:Env} {S:Store} {o:Op} (hc:∀ c,o ≠ .call c) {K1 K2:PV→Store→Prop} (h1:pOp P T e S o K1) (h2:pOp P T e S o K2):pOp P T e S o fun v S'=>K1 v S'∧K2 v S':=by
 cases o with
 | call c=>exact absurd rfl (hc c)
 | alloc t=>exact ⟨h1.1,h1.2,h2.2⟩
 | box t x=>exact ⟨h1.1,h1.2.1,h1.2.2.1,h1.2.2.2,h2.2.2.2⟩
 | buildSlice t n ps =>
  simp only[pOp]at h1 h2 ⊢
  split at h1
  ·rename_i et hk
   rw [hk]at h2
   simp only at h2 ⊢
   refine ⟨h1.1,h1.2.1,?_⟩
   have h1:=h1.2.2
   have h2:=h2.2.2
   split at h1
   ·rename_i cells hf
    rw [hf]at h2
    simp only at h2 ⊢
    exact ⟨h1.1,h1.2,h2.2⟩
   exact h1.elim
  exact h1.elim
 | makeSlice t l c =>
  simp only[pOp]at h1 h2 ⊢
  split at h1
  ·rename_i et q l' q' c' hk e1 e2
   rw [hk,e1,e2]at h2
   simp only at h2 ⊢
   exact ⟨h1.1,h1.2.1,h1.2.2.1,h1.2.2.2.1,h1.2.2.2.2,h2.2.2.2.2⟩
  exact h1.elim
 | makeMap t r=>exact ⟨h1.1,h1.2,h2.2⟩
 | store t a x =>
  simp only[pOp]at h1 h2 ⊢
  split at h1
  ·rename_i o ver off ha
   rw [ha]at h2
   simp only at h2 ⊢
   split at h1
   ·rename_i v et sz cells ho
    rw [ho]at h2
    simp only at h2 ⊢
    exact ⟨h1.1,h1.2.1,h1.2.2.1,h1.2.2.2.1,h1.2.2.2.2.1,h1.2.2.2.2.2,h2.2.2.2.2.2⟩
   exact h1.elim
  exact h1.elim
 | mapUpdate t m k x =>
  simp only[pOp]at h1 h2 ⊢
  split at h1
  ·rename_i kt vt o ver hk hm
   rw [hk,hm]at h2
   simp only at h2 ⊢
   split at h1
   ·rename_i v es ho
    rw [ho]at h2
    simp only at h2 ⊢
    refine ⟨h1.1,h1.2.1,?_⟩
    have h1:=h1.2.2
    have h2:=h2.2.2
    split at h1
    ·rename_i hf; rw [hf]at h2; exact ⟨h1,h2⟩
    ·rename_i hf; rw [hf]at h2; exact ⟨h1,h2⟩
    exact h1.elim
   exact h1.elim
  exact h1.elim
 | _ =>
  simp only[pOp]at h1 h2 ⊢
  rw [zm9]at h1 h2 ⊢
  obtain ⟨v,e1,k1⟩:=h1
  obtain ⟨v',e2,k2⟩:=h2
  rw [e1]at e2
  cases e2
  exact ⟨v,e1,k1,k2⟩
theorem z5v {ops:Array Oper} {o:Oper} {e:Env} {y1 n1 y2 n2:Prop} (h1:zdo ops o e y1 n1) (h2:zdo ops o e y2 n2):zdo ops o e (y1∧y2) (n1∧n2):=by
 unfold zdo at *
 split at h1
 ·rename_i h; rw [h]at h2; exact ⟨h1,h2⟩
 ·rename_i h; rw [h]at h2; exact ⟨h1,h2⟩
 exact h1.elim
theorem ya5 {R:Option Nat} {nn:Nat} (hT:zcd P T) {ops:Array Oper} {effs pend keep:List Nat} {Q:Env→Store→Prop} {i:Nat} {r1 r2:List Nat} {e:Env} {F:Nat→Prop} {G:GSt} {a:Act} {w:World}
  (hnc:∀ o:Oper,ops[i]?=some o→∀ c,o.op ≠ .call c)
  (h1:zdn P T ops effs pend keep Q (i::r1) e G.er) (h2:zdn P T ops effs pend keep Q (i::r2) e G.er) (hi:Inv F G w) (he:zfk w.heap F G e a) (hn:Next F0 G0 w0 F G w) (hs:a.tmps.size=N) (hd:Marks w0 a.defers w)
  (hdst:∀ o∈ops.toList,∀ d,o.dst=some d→d<N) {Qx:Exit→Act→World→Prop} {K:Act→World→Prop}
  (hK:∀ e' F' G' a' w',zdn P T ops effs pend keep Q r1 e' G'.er→zdn P T ops effs pend keep Q r2 e' G'.er→Inv F' G' w'→zfk w'.heap F' G' e' a'→Next F0 G0 w0 F' G' w'→a'.tmps.size=N→Marks w0 a'.defers w'→K a' w') :
  wpOpIn (fnc R) nn P ops Qx i K a w:=by
 simp only[zdn]at h1 h2
 unfold wpOpIn
 cases ho:ops[i]? with
 | none=>rw [ho]at h1; exact h1.elim
 | some o =>
  rw [ho]at h1 h2
  have hnc:=hnc o ho
  have hd1:∀ t,o.dst=some t→t<a.tmps.size:=fun t ht=>by
   rw [hs]; exact hdst o (List.mem_of_getElem? (i:=i) (by simpa using ho)) t ht
  simp only at h1 h2 ⊢
  rcases zja he (z5v h1 h2) with ⟨hw,h1,h2⟩ | ⟨hw,h1,h2⟩
  ·rw [if_pos hw]
   split at h1
   ·rename_i hc
    rw [if_pos hc]at h2
    refine zjd hT hi he (z9g hnc h1 h2) ?_
    intro v cv F' G' w' hk i1 i2 i3
    exact hK _ _ _ _ _ hk.1.2 hk.2.2 i1 ((he.next hi i2).put _ hd1 i3) (hn.trans i2) (by rw [zfb]; exact hs) (by rw [zdk]; exact hd.next hi i2)
   ·rename_i hc
    rw [if_neg hc]at h2
    rw [zdh]at h1 h2
    obtain ⟨v,f1,_,f3⟩:=h1
    obtain ⟨v',g1,_,g3⟩:=h2
    have hv:v=v':=by
     have hop:=z9g hnc (zrv f1) (zrv g1)
     have key:∀ {op:Op},(∀ c,op ≠ .call c)→pFl P T G.er e op v→pFl P T G.er e op v'→v=v':=by
      intro op hc a1 a2
      cases op with
      | call c=>exact absurd rfl (hc c)
      | _=>exact Option.some.inj (a1.symm.trans a2)
     exact key hnc f1 g1
    subst hv
    refine zjd hT hi he (zrv f1) ?_
    rintro v' cv F' G' w' ⟨rfl,hS⟩ i1 i2 i3
    exact hK _ _ _ _ _ (by rw [hS]; exact f3) (by rw [hS]; exact g3) i1 ((he.next hi i2).put _ hd1 i3) (hn.trans i2) (by rw [zfb]; exact hs) (by rw [zdk]; exact hd.next hi i2)
  rw [if_neg (by simp [hw])]
  exact ⟨fun _ _=>trivial,hK _ _ _ _ _ h1 h2 hi (zn2 hi he _ hd1) hn (by rw [zfb]; exact hs) (by rw [zdk]; exact hd)⟩
theorem z7l {R:Option Nat} {nn:Nat} (hT:zcd P T) {ops:Array Oper} {effs pend keep:List Nat} {Q:Env→Store→Prop} (hdst:∀ o∈ops.toList,∀ d,o.dst=some d→d<N)
  (hdep:∀ (i:Nat) o,ops[i]?=some o→∀ e∈o.after.toList,Region.binds .any e=true→e.on<ops.size) {x0 y0:Nat} (hxy:x0≠y0) (hno1:((prs ops).getD x0 0).testBit y0=false) (hno2:((prs ops).getD y0 0).testBit x0=false)
  (hnc:∀ (i:Nat) (o:Oper),ops[i]?=some o→∀ c,o.op ≠ .call c) :
  ∀ (fuel:Nat) (listed:Array Bool) (l l':List Nat) {e:Env} {F:Nat→Prop} {G:GSt} {a:Act} {w:World},l.length=fuel→l'.length=fuel→x0∈l→y0∈l →
   l.Pairwise (fun x i=>zhb ops (prs ops) effs pend x i=true∨(x=x0∧i=y0))→l'.Pairwise (fun x i=>zhb ops (prs ops) effs pend x i=true∨(x=y0∧i=x0))→l.Nodup→l'.Nodup→(∀ x∈l,((prs ops).getD x 0).testBit x=false) →
   listed.size=ops.size→(∀ i,i∈l↔i<ops.size∧listed.getD i true=false)→(∀ i,i∈l'↔i<ops.size∧listed.getD i true=false) →
   (∀ i x,listed.getD i false=true→((prs ops).getD i 0).testBit x=true→x<ops.size→listed.getD x true=true) →
   zdn P T ops effs pend keep Q l e G.er→zdn P T ops effs pend keep Q l' e G.er→Inv F G w→zfk w.heap F G e a→Next F0 G0 w0 F G w→a.tmps.size=N→Marks w0 a.defers w →
   wpAnyIn (fnc R) nn P .any ops (Sto F0 G0 w0 N (Nrm Q)) fuel listed a w:=by
 intro fuel
 induction fuel with
 | zero =>
  intro listed l l' e F G a w hl hl' hx0 hy0 hp hp' hnd hnd' hself hsz hmem hmem' hcl h h' hi he hn hs hd
  have hl0:l=[]:=List.eq_nil_of_length_eq_zero hl
  subst hl0
  simp at hx0
 | succ fuel ih =>
  intro listed l l' e F G a w hl hl' hx0 hy0 hp hp' hnd hnd' hself hsz hmem hmem' hcl h h' hi he hn hs hd
  have hmm:∀ i,i∈l↔i∈l':=fun i=>(hmem i).trans (hmem' i).symm
  have bound:∀ i x,((prs ops).getD i 0).testBit x=true→x<ops.size:=by
   have key:∀ n i x,i<n→((prs ops).getD i 0).testBit x=true→x<ops.size:=by
    intro n
    induction n with
    | zero=>intro i x h; omega
    | succ n ihn =>
     intro i x hin hx
     obtain ⟨o,ho,ed,h1,h2,h3⟩:=zje hx
     rcases h3 with rfl | ⟨h3,h4⟩
     ·exact hdep i o ho ed h1 h2
     exact ihn ed.on x (by omega) h4
   exact fun i x=>key (i+1) i x (Nat.lt_succ_self _)
  have facts:∀ i,i∈Region.ready .any ops listed→i∈l∧∃ q,ops[i]?=some q∧∀ e∈q.after.toList,Region.binds .any e=true→listed.getD e.on false=true:=by
   intro i hr
   unfold Region.ready at hr
   rw [List.mem_filter]at hr
   obtain ⟨h1,h2⟩:=hr
   have hlt:i<ops.size:=by simpa using h1
   rw [Array.getElem?_eq_getElem hlt]at h2
   simp only[qO,Option.getD_some,qB,Bool.not_eq_true']at h2
   refine ⟨(hmem i).2 ⟨hlt,h2.1⟩,ops[i],Array.getElem?_eq_getElem hlt,fun e he hb=>?_⟩
   have:=h2.2
   rw [Array.all_eq_true_iff_forall_mem]at this
   have:=this e (by simpa using he)
   simpa [hb] using this
  have preds:∀ i,i∈Region.ready .any ops listed→∀ x,((prs ops).getD i 0).testBit x=true→listed.getD x true=true:=by
   intro i hr x hx
   obtain ⟨_,q,hq,hdeps⟩:=facts i hr
   have hxl:=bound i x hx
   obtain ⟨o,ho,ed,h1,h2,h3⟩:=zje hx
   rw [hq]at ho
   cases ho
   have hl1:=hdeps ed h1 h2
   rcases h3 with rfl | ⟨_,h3⟩
   ·have hlt:ed.on<listed.size:=by rw [hsz]; exact hxl
    rw [Array.getD_eq_getD_getElem?,Array.getElem?_eq_getElem hlt]at hl1 ⊢
    exact hl1
   exact hcl _ _ hl1 h3 hxl
  refine ⟨fun hr0=>?_,fun i hr=>?_⟩
  ·exfalso
   cases l with
   | nil=>simp at hl
   | cons x l =>
    have hx:=(hmem x).1 (by simp)
    have hready:x∈Region.ready .any ops listed:=by
     unfold Region.ready
     rw [List.mem_filter]
     refine ⟨by simpa using hx.1,?_⟩
     rw [Array.getElem?_eq_getElem hx.1]
     simp only[qO,Option.getD_some,qB,Bool.not_eq_true']
     refine ⟨hx.2,?_⟩
     rw [Array.all_eq_true_iff_forall_mem]
     intro ed hed
     cases hb:Region.binds .any ed with
     | false=>simp
     | true =>
      have hon:=hdep x _ (Array.getElem?_eq_getElem hx.1) ed (by simpa using hed) hb
      have hbit:=zuj (Array.getElem?_eq_getElem hx.1) (by simpa using hed) hb
      cases hq:listed.getD ed.on true with
      | true =>
       have hlt:ed.on<listed.size:=by rw [hsz]; exact hon
       rw [Array.getD_eq_getD_getElem?,Array.getElem?_eq_getElem hlt]at hq ⊢
       simpa using hq
      | false =>
       exfalso
       have hm:=(hmem ed.on).2 ⟨hon,hq⟩
       rcases List.mem_cons.1 hm with he1 | hm
       ·have:=hself x (by simp)
        rw [he1]at hbit
        rw [hbit]at this
        cases this
       rcases List.rel_of_pairwise_cons hp hm with this | ⟨e1,e2⟩
       ·unfold zhb at this
        rw [hbit]at this
        simp at this
       rw [e1,e2,hno1]at hbit; cases hbit
    rw [hr0]at hready
    simp at hready
  obtain ⟨hil,q,hq,_⟩:=facts i hr
  have hil':=(hmm i).1 hil
  obtain ⟨l1,l2,rfl⟩:=List.append_of_mem hil
  obtain ⟨l3,l4,rfl⟩:=List.append_of_mem hil'
  have good:∀ x,x∈l1++i::l2→zhb ops (prs ops) effs pend x i=true→∃ p,ops[x]?=some p∧effs.contains x=false∧Oper.apart ops p q=true∧(effs.contains i=true→(pend.contains x=true∧pend.contains i=false)∨znp p.op=true):=by
   intro x hx hpair
   have hxm:=(hmem x).1 hx
   have hnb:((prs ops).getD i 0).testBit x=false:=by
    cases hb:((prs ops).getD i 0).testBit x with
    | false=>rfl
    | true=>have:=preds i hr x hb; rw [hxm.2]at this; cases this
   unfold zhb at hpair
   rw [hnb,hq,Array.getElem?_eq_getElem hxm.1]at hpair
   simp only[Bool.false_or,qB,Bool.not_eq_true',Bool.or_eq_true]at hpair
   refine ⟨ops[x],Array.getElem?_eq_getElem hxm.1,hpair.2.1.1,hpair.2.1.2,fun hc=>?_⟩
   rcases hpair.2.2 with (h1 | h1) | h1
   ·rw [hc]at h1; cases h1
   ·exact .inl h1
   exact .inr h1
  have hlt:i<ops.size:=((hmem i).1 hil).1
  have hgetD:∀ j d,(listed.setIfInBounds i true).getD j d=if j=i then true else listed.getD j d:=by
   intro j d
   rw [Array.getD_eq_getD_getElem?,Array.getD_eq_getD_getElem?]
   by_cases hj:j=i
   ·subst hj; simp [hsz,hlt]
   rw [Array.getElem?_setIfInBounds_ne (Ne.symm hj),if_neg hj]
  have nmem:∀ {m1 m2:List Nat},(m1++i::m2).Nodup→i ∉ m1++m2:=by
   intro m1 m2 hnd hm
   have:=List.nodup_append.1 hnd
   rcases List.mem_append.1 hm with h1 | h1
   ·exact this.2.2 i h1 i (by simp) rfl
   exact (List.nodup_cons.1 this.2.1).1 h1
  have nlist:∀ {m1 m2:List Nat},(m1++i::m2).Nodup→(∀ j,j∈m1++i::m2↔j<ops.size∧listed.getD j true=false)→∀ j,j∈m1++m2↔j<ops.size∧(listed.setIfInBounds i true).getD j true=false:=by
   intro m1 m2 hnd hm j
   rw [hgetD]
   by_cases hj:j=i
   ·subst hj
    rw [if_pos rfl]
    exact ⟨fun h=>(nmem hnd h).elim,fun h=>(by cases h.2)⟩
   rw [if_neg hj,← hm j]
   simp [hj]
  have ncl:∀ (j x:Nat),(listed.setIfInBounds i true).getD j false=true→((prs ops).getD j 0).testBit x=true→x<ops.size→(listed.setIfInBounds i true).getD x true=true:=by
   intro j x h1 h2 h3
   rw [hgetD]at h1 ⊢
   by_cases hx:x=i
   ·rw [if_pos hx]
   rw [if_neg hx]
   by_cases hj:j=i
   ·subst hj; exact preds j hr x h2
   rw [if_neg hj]at h1; exact hcl j x h1 h2 h3
  by_cases ix:i=x0
  ·subst ix
   have hfront:=zfd hq l1 (fun x hx=>good x (by simp [hx]) (by
    rcases (List.pairwise_append.1 hp).2.2 x hx i (by simp) with h1 | ⟨e1,e2⟩
    ·exact h1
    exact absurd e2 hxy)) h
   refine zm7 hT hfront hi he hn hs hd hdst ?_
   intro e' F' G' a' w' k1 k2 k3 k4 k5 k6
   refine zmt hT hdst hdep _ _ (l1++l2) (by simp at hl ⊢; omega) ?_ (hnd.sublist (by simp)) (fun x hx=>hself x (by rcases List.mem_append.1 hx with h9 | h9 <;> simp [h9])) (by simp [hsz]) (nlist hnd hmem) ncl k1 k2 k3 k4 k5 k6
   refine (hp.sublist (by simp)).imp_of_mem (S:=fun x i=>zhb ops (prs ops) effs pend x i=true) fun {x y} hx hy hh=>?_
   rcases hh with h1 | ⟨e1,e2⟩
   ·exact h1
   exact absurd (e1 ▸ hx) (nmem hnd)
  by_cases iy:i=y0
  ·subst iy
   have hfront:=zfd hq l3 (fun x hx=>good x ((hmm x).2 (by simp [hx])) (by
    rcases (List.pairwise_append.1 hp').2.2 x hx i (by simp) with h1 | ⟨e1,e2⟩
    ·exact h1
    exact absurd e2 ix)) h'
   refine zm7 hT hfront hi he hn hs hd hdst ?_
   intro e' F' G' a' w' k1 k2 k3 k4 k5 k6
   refine zmt hT hdst hdep _ _ (l3++l4) (by simp at hl' ⊢; omega) ?_ (hnd'.sublist (by simp)) (fun x hx=>hself x ((hmm x).2 (by rcases List.mem_append.1 hx with h9 | h9 <;> simp [h9]))) (by simp [hsz]) (nlist hnd' hmem') ncl k1 k2 k3 k4 k5 k6
   refine (hp'.sublist (by simp)).imp_of_mem (S:=fun x i=>zhb ops (prs ops) effs pend x i=true) fun {x y} hx hy hh=>?_
   rcases hh with h1 | ⟨e1,e2⟩
   ·exact h1
   exact absurd (e1 ▸ hx) (nmem hnd')
  have hf1:=zfd hq l1 (fun x hx=>good x (by simp [hx]) (by
   rcases (List.pairwise_append.1 hp).2.2 x hx i (by simp) with h1 | ⟨e1,e2⟩
   ·exact h1
   exact absurd e2 iy)) h
  have hf2:=zfd hq l3 (fun x hx=>good x ((hmm x).2 (by simp [hx])) (by
   rcases (List.pairwise_append.1 hp').2.2 x hx i (by simp) with h1 | ⟨e1,e2⟩
   ·exact h1
   exact absurd e2 ix)) h'
  refine ya5 hT (hnc i) hf1 hf2 hi he hn hs hd hdst ?_
  intro e' F' G' a' w' k1 k1' k2 k3 k4 k5 k6
  have hx1:x0∈l1++l2:=by have:=hx0; simp only[List.mem_append,List.mem_cons]at this ⊢; rcases this with h9 | h9 | h9 <;> first | exact .inl h9 | exact .inr h9 | exact absurd h9.symm ix
  have hy1:y0∈l1++l2:=by have:=hy0; simp only[List.mem_append,List.mem_cons]at this ⊢; rcases this with h9 | h9 | h9 <;> first | exact .inl h9 | exact .inr h9 | exact absurd h9.symm iy
  exact ih _ (l1++l2) (l3++l4) (by simp at hl ⊢; omega) (by simp at hl' ⊢; omega) hx1 hy1 (hp.sublist (by simp)) (hp'.sublist (by simp)) (hnd.sublist (by simp)) (hnd'.sublist (by simp)) (fun x hx=>hself x (by rcases List.mem_append.1 hx with h9 | h9 <;> simp [h9])) (by simp [hsz])
   (nlist hnd hmem) (nlist hnd' hmem') ncl k1 k1' k2 k3 k4 k5 k6
def z68 (ops:Array Oper) (l l' effs pend:List Nat) (a b:Nat):Bool :=
 let B:=prs ops
 zl4 (fun x i=>zhb ops B effs pend x i || (x == a && i == b)) l && zl4 (fun x i=>zhb ops B effs pend x i || (x == b && i == a)) l' && l.length == ops.size && l'.length == ops.size && l.all (fun x=>decide (x<ops.size) && !(B.getD x 0).testBit x) && l'.all (fun x=>decide (x<ops.size)) &&
 ((List.range ops.size).all l.contains) && ((List.range ops.size).all l'.contains) && (ops.toList.all fun o=>o.after.toList.all fun e => !Region.binds .any e || decide (e.on<ops.size)) &&
 !(a == b) && l.contains a && l.contains b && !(B.getD a 0).testBit b && !(B.getD b 0).testBit a && ops.toList.all fun o=>match o.op with | .call _=>false | _=>true
theorem W.region_two {Q:Exit→Env→Store→Prop} {e:Env} {S:Store} {id:Nat} {ops:Array Oper} (l l' effs pend keep:List Nat) (a b:Nat) (hc:z68 ops l l' effs pend a b=true) (h:zdn P T ops effs pend keep (Q .normal) l e S) (h':zdn P T ops effs pend keep (Q .normal) l' e S) :
  W P T (.region id ops true) Q e S:=by
 refine ⟨?_⟩
 intro hT hm F0 G0 w0 N F G act w h3 h4 h5 h6 h7 h8 h9 R nn
 subst h3
 unfold z68 at hc
 simp only[qB,beq_iff_eq,List.all_eq_true,decide_eq_true_eq,Bool.not_eq_true',List.contains_eq_mem,List.mem_range,Bool.or_eq_true,beq_eq_false_iff_ne]at hc
 obtain ⟨⟨⟨⟨⟨⟨⟨⟨⟨⟨⟨⟨⟨⟨c1,c1'⟩,c2⟩,c2'⟩,c3⟩,c3'⟩,c4⟩,c4'⟩,c5⟩,c6⟩,c7⟩,c8⟩,c9⟩,c10⟩,c11⟩:=hc
 obtain ⟨p1,p2⟩:=zgr c1
 obtain ⟨p1',p2'⟩:=zgr c1'
 have hin:∀ i,i<ops.size↔i<ops.size∧(Array.replicate ops.size false).getD i true=false:=by
  intro i
  constructor
  ·intro hi; refine ⟨hi,?_⟩; rw [Array.getD_eq_getD_getElem?]; simp [hi]
  exact fun h=>h.1
 refine wpIn_mono (wpIn_region_any hm (z7l (Q:=Q .normal) hT (zqz h9) ?_ c6 c9 c10 ?_ ops.size (Array.replicate ops.size false) l l' c2 c2' (by simpa using c7) (by simpa using c8) (p1.imp fun h=>by simpa using h) (p1'.imp fun h=>by simpa using h) p2 p2' (fun x hx=>(c3 x hx).2) (by simp) ?_ ?_ ?_ h h' (h4.drew) h5 (h6.drew) h7 h8)) zyn
 ·intro i o ho ed hed hb
  have hmem:o∈ops.toList:=by
   have:=Array.mem_of_getElem? ho
   simpa using this
  have:=c5 o hmem ed hed
  rw [hb]at this
  simpa using this
 ·intro i o ho c hcc
  have hmem:o∈ops.toList:=by
   have:=Array.mem_of_getElem? ho
   simpa using this
  have:=c11 o hmem
  rw [hcc]at this
  simp at this
 ·exact fun i=>⟨fun hi=>(hin i).1 (c3 i hi).1,fun hi=>c4 i hi.1⟩
 ·exact fun i=>⟨fun hi=>(hin i).1 (c3' i hi),fun hi=>c4' i hi.1⟩
 intro i x hx
 rw [Array.getD_eq_getD_getElem?]at hx
 simp only[Array.getElem?_replicate]at hx
 split at hx <;> cases hx
theorem zq2 {all:List Oper} {effs pend:List Nat} {K:Env→Store→Prop} (heff:∀ (i:Nat) (o:Oper),all[i]?=some o→effs.contains i=false→zdx o.op=true) {x:Nat} {cs:List PV} {off:Nat}
  (hx:∀ (i:Nat) (o:Oper),all[i]?=some o→o.dst≠some x) (hpe:∀ (i:Nat) (o:Oper),all[i]?=some o→pend.contains i=true→∃ t,o.op = .load t (.tmp x)):∀ (r:List Nat) (l:List Oper) {e:Env} {S:Store},e x = .ip cs off→r.map (all[·]?)=l.map some →
  zb7 false P T (dsts all) l e S K→zdn P T all.toArray effs pend [] K r e S
 | [],l,e,S,_,hl,h=>by
  cases l with
  | nil=>exact h
  | cons o l=>simp at hl
 | i::r,l,e,S,hex,hl,h=>by
  cases l with
  | nil=>simp at hl
  | cons o l =>
   simp only[List.map_cons,List.cons.injEq]at hl
   obtain ⟨ho,hl⟩:=hl
   have hput:∀ v,(e.put o.dst v) x = .ip cs off:=fun v=>by
    have:=hx i o ho
    cases hd:o.dst with
    | none=>exact hex
    | some d=>rw [zv8,if_neg (fun e1=>this (by rw [hd,e1]))]; exact hex
   unfold zb7 at h
   simp only[zdn,List.getElem?_toArray,ho]
   rw [zj7]at h
   unfold zdo
   split at h
   ·rename_i hg
    rw [hg]
    simp only
    split
    ·exact zd6 (fun v S' hv=>⟨.inr (by intro o ho; cases ho),zq2 heff hx hpe r l (hput v) hl hv⟩) (zki h)
    rename_i hc
    have:=zku (heff i o ho (by simpa using hc)) h
    rw [zdh]at this ⊢
    obtain ⟨v,h1,h2⟩:=this
    refine ⟨v,h1,?_,zq2 heff hx hpe r l (hput v) hl h2⟩
    split
    ·rename_i hp
     obtain ⟨t,ht⟩:=hpe i o ho hp
     intro S' _
     rw [ht]at h1 ⊢
     simp only[pFl,zd3,z7o,hex,zs2]at h1 ⊢
     exact h1
    trivial
   ·rename_i hg; rw [hg]; exact zq2 heff hx hpe r l (hput _) hl h
   exact h.elim
def yh7 (l:List Oper) (effs pend:List Nat) (x:Nat):Bool :=
 l.all (fun o=>o.dst != some x) && (l.zipIdx.all fun q => !pend.contains q.2 || (match q.1.op with | .load _ (.tmp y)=>y == x | _=>false))
theorem W.draw_two {Q:Exit→Env→Store→Prop} {e:Env} {S:Store} {id:Nat} {l r1 r2:List Oper} (l1 l2 pend:List Nat) (a b x:Nat) {cs:List PV} {off:Nat} (hex:e x = .ip cs off) (hc:z68 l.toArray l1 l2 (zco l 0) pend a b=true) (ho:yh7 l (zco l 0) pend x=true)
  (hr:l1.map (l[·]?)=r1.map some) (hr2:l2.map (l[·]?)=r2.map some)
  (h1:∀ K:Env→Store→Prop,(∀ e S,Q .normal e S→K e S)→zb7 false P T (dsts l) r1 e S K) (h2:∀ K:Env→Store→Prop,(∀ e S,Q .normal e S→K e S)→zb7 false P T (dsts l) r2 e S K):W P T (.region id l.toArray true) Q e S:=by
 unfold yh7 at ho
 simp only[qB,List.all_eq_true,bne_iff_ne,Bool.or_eq_true,Bool.not_eq_true']at ho
 have heff:∀ (i:Nat) (o:Oper),l[i]?=some o→(zco l 0).contains i=false→zdx o.op=true:=by
  intro i o hio hc
  have:=zi8 l 0 i o hio
  rw [Nat.zero_add]at this
  cases hf:zdx o.op with
  | true=>rfl
  | false=>have:=this.2 hf; simp at hc; exact absurd this hc
 have hx:∀ (i:Nat) (o:Oper),l[i]?=some o→o.dst≠some x:=fun i o hio=>ho.1 o (List.mem_of_getElem? hio)
 have hpe:∀ (i:Nat) (o:Oper),l[i]?=some o→pend.contains i=true→∃ t,o.op = .load t (.tmp x):=by
  intro i o hio hp
  rcases ho.2 (o,i) (List.mem_of_getElem? (i:=i) (by simp [List.getElem?_zipIdx,hio])) with h | h
  ·rw [hp]at h; cases h
  simp only at h
  split at h
  ·rename_i t y hop; exact ⟨t,by rw [hop,beq_iff_eq.1 h]⟩
  cases h
 exact W.region_two l1 l2 (zco l 0) pend [] a b hc (zq2 heff hx hpe _ _ hex hr (h1 _ fun _ _ h=>h)) (zq2 heff hx hpe _ _ hex hr2 (h2 _ fun _ _ h=>h))
end
end
theorem zam {a b:Nat}:((a+b:Nat):Int) - (a:Int)=(b:Int):=by omega
theorem z1d {p:List Txt} (hp:zcc p=true):GW (gP p) p.length (za1 p).length:=by
 rw [← zi9]at hp
 simp only[zha,qB]at hp
 have:=z3k hp.1
 rwa [zge]at this
theorem yb2 {p:List Txt} (hp:zcc p=true) {t:Pt} (ht:t.In p.length (za1 p).length) (l:Nat) (a b c d:Ob) (tk:Nat) (B C D:Bool × Nat→Ob)
  (hy:∀ q,zd4 (zat p) t=some q→∀ (x y:Ob) (tk2:Nat),tk≤tk2→Ey Tryz.prog l [z2r (gP p) (rP p) t q] ⟨[a,b,c,d,x,y],tk2⟩ fun v S=>v = .bool false∧∃ tk3,S=⟨[a,B q,C q,D q,x,y],tk3⟩):Ev Tryz.prog 140 [.yl l,.ip (zax (gP p) (rP p)::t.rect.cells) 0] ⟨[a,b,c,d],tk⟩ fun v S=>(∃ tk2,zd4 (zat p) t=none∧S=⟨[a,b,c,d],tk2⟩)∨∃ q tk2,zd4 (zat p) t=some q∧S=⟨[a,B q,C q,D q],tk2⟩:=by
 have hsm:=zb3 (zed hp)
 obtain ⟨t1,t2,t3,t4⟩:=id ht
 have hgw:=z1d hp
 obtain ⟨g1,g2,g3,g4⟩:=hgw.2.2
 simp only[Pt.rect,Rect.cells]
 refine Ev.of ⟨Tryz.func140,by kernel_rfl,rfl,by kernel_rfl⟩ zbl mixed (by show 2≤Tryz.f140.ntmps; decide) ?_
 refine W.seq ?_
 refine W.r fun K hK=>?_
 simp(disch:=omega)only[↓RU,RV,RH,↓reduceIte,qE,reduceCtorEq,if_pos,w64,↓RS,RG,qA,qM,qL,ty8,zcs,zbt,zaa,zct,zbu,zam]
 apply hK;clear hK K
 refine W.block ?_
 refine W.loop [0,1,3] (fun n vs S=>∃ k tk2:Nat,n=t.w - k∧1≤k∧k≤t.w∧(∀ j,1≤j→j<k→thU (zat p) t j=false)∧tk≤tk2∧vs=[.yl l,.ip [zax (gP p) (rP p),.int .i64 t.r,.int .i64 t.c,.int .i64 t.h,.int .i64 t.w] 0,.int .i64 ((t.c+k:Nat):Int)]∧S=⟨[a,b,c,d],tk2⟩) (t.w - 1) ?_ ?_
 ·refine ⟨4,1,_,rfl,by omega,by omega,fun j _ _=>by omega,qR _,?_,rfl⟩
  simp [Env.put,Env.of,zad]
 rintro n vs S - ⟨k,tk2,rfl,hk1,h_k,hall,htk,rfl,rfl⟩
 refine W.seq ?_
 refine W.r fun K hK=>?_
 simp(disch:=omega)only[↓RU,RV,RH,↓reduceIte,qE,reduceCtorEq,if_pos,w64,↓RS,RG,qA,qM,qL,ty8,zcs,zbt,zaa,zct,zbu,zam]
 apply hK;clear hK K
 refine W.cond rfl (fun h=>?_) (fun h=>?_)
 ·try simp only[RL]at h
  have hgu:=yjc hp ht hk1 (show k<t.w by omega)
  have e1:((t.w:Nat):Int) - ((k:Nat):Int)=((t.w - k:Nat):Int):=by omega
  refine W.skip ?_
  refine xn ?_
  refine W.seq ?_
  refine W.block ?_
  refine W.seq (W.draw_two (r1:=[_,_,_,_,_,_]) (r2:=[_,_,_,_,_,_]) [0,1,2,3,4,5] [0,1,3,2,4,5] [0,1] 2 3 1 rfl (by kernel_rfl) (by kernel_rfl) rfl rfl (fun K hK=>?_) (fun K hK=>?_))
  ·simp(disch:=omega)only[↓RU,RV,RH,↓reduceIte,qE,reduceCtorEq,if_pos,↓RS,RG,qA,qM,qL,ty8,zcs,zbt,zaa,zct,zbu,zam]
   apply hK;clear hK K
   refine xn ?_
   refine W.r fun K hK=>?_
   simp(disch:=omega)only[↓RU,RV,RH,↓reduceIte,qE,reduceCtorEq,if_pos,w64,↓RS,RG,qA,qM,qL,ty8,zcs,zbt,zaa,zct,zbu,zam]
   apply hK;clear hK K
   refine W.seq_pk 11 [some 34,some 35,some 36,some 37,some 38,some 39] [4] (by decide) (by kernel_rfl) fun K hK=>?_
   simp only[List.take_succ_cons,List.take_zero,List.drop_succ_cons,List.drop_zero]
   refine zbv rfl ?_
   simp(disch:=omega)only[↓RU,RV,RH,↓reduceIte,qE,reduceCtorEq,if_pos,w64,↓RS,RG,qA,qM,qL,ty8,zcs,zbt,zaa,zct,zbu,zam,e1,za4,zbj]
   refine zbk (.ip [zax (gP p) (rP p),.int .i64 t.r,.int .i64 t.c,.int .i64 t.h,.int .i64 t.w] 1) rfl rfl rfl (fun S' hS=>?_) ?_
   ·skip
    have k4:=(hS 4 (by decide)).trans (show _=some _ from rfl)
    simp(disch:=omega)only[↓RU,RV,RH,↓reduceIte,qE,reduceCtorEq,if_pos,w64,↓RS,RG,qA,qM,qL,ty8,zcs,zbt,zaa,zct,zbu,zam,e1,zcf,zc9,zee,zef,k4]
   refine zbk (.ip [zax (gP p) (rP p),.int .i64 t.r,.int .i64 t.c,.int .i64 t.h,.int .i64 t.w] 4) rfl rfl rfl (fun S' hS=>?_) ?_
   ·skip
    have k4:=(hS 4 (by decide)).trans (show _=some _ from rfl)
    simp(disch:=omega)only[↓RU,RV,RH,↓reduceIte,qE,reduceCtorEq,if_pos,w64,↓RS,RG,qA,qM,qL,ty8,zcs,zbt,zaa,zct,zbu,zam,e1,zcf,zc9,zee,zef,k4]
   refine zbk (.int .i64 t.w) rfl rfl rfl (fun S' hS=>?_) ?_
   ·skip
    have k4:=(hS 4 (by decide)).trans (show _=some _ from rfl)
    simp(disch:=omega)only[↓RU,RV,RH,↓reduceIte,qE,reduceCtorEq,if_pos,w64,↓RS,RG,qA,qM,qL,ty8,zcs,zbt,zaa,zct,zbu,zam,e1,zcf,zc9,zee,zef,k4]
   refine zbk (.ref 4 tk2 1) rfl rfl rfl (fun S' hS=>?_) ?_
   ·skip
    have k4:=(hS 4 (by decide)).trans (show _=some _ from rfl)
    simp(disch:=omega)only[↓RU,RV,RH,↓reduceIte,qE,reduceCtorEq,if_pos,w64,↓RS,RG,qA,qM,qL,ty8,zcs,zbt,zaa,zct,zbu,zam,e1,zcf,zc9,zee,zef,k4]
   refine zbk (.ref 4 tk2 4) rfl rfl rfl (fun S' hS=>?_) ?_
   ·skip
    have k4:=(hS 4 (by decide)).trans (show _=some _ from rfl)
    simp(disch:=omega)only[↓RU,RV,RH,↓reduceIte,qE,reduceCtorEq,if_pos,w64,↓RS,RG,qA,qM,qL,ty8,zcs,zbt,zaa,zct,zbu,zam,e1,zcf,zc9,zee,zef,k4]
   refine zbk (.int .i64 k) rfl rfl rfl (fun S' hS=>?_) ?_
   ·skip
    have k4:=(hS 4 (by decide)).trans (show _=some _ from rfl)
    simp(disch:=omega)only[↓RU,RV,RH,↓reduceIte,qE,reduceCtorEq,if_pos,w64,↓RS,RG,qA,qM,qL,ty8,zcs,zbt,zaa,zct,zbu,zam,e1,zcf,zc9,zee,zef,k4]
   refine zbv rfl ?_
   simp(disch:=omega)only[↓RU,RV,RH,↓reduceIte,qE,reduceCtorEq,if_pos,w64,↓RS,RG,qA,qM,qL,ty8,zcs,zbt,zaa,zct,zbu,zam,e1,za4,zbj]
   refine zbv rfl ?_
   simp(disch:=omega)only[↓RU,RV,RH,↓reduceIte,qE,reduceCtorEq,if_pos,w64,↓RS,RG,qA,qM,qL,ty8,zcs,zbt,zaa,zct,zbu,zam,e1,za4,zbj]
   refine zbv rfl ?_
   simp(disch:=omega)only[↓RU,RV,RH,↓reduceIte,qE,reduceCtorEq,if_pos,w64,↓RS,RG,qA,qM,qL,ty8,zcs,zbt,zaa,zct,zbu,zam,e1,za4,zbj]
   refine zbv rfl ?_
   simp(disch:=omega)only[↓RU,RV,RH,↓reduceIte,qE,reduceCtorEq,if_pos,w64,↓RS,RG,qA,qM,qL,ty8,zcs,zbt,zaa,zct,zbu,zam,e1,za4,zbj]
   refine zgl ?_
   simp(disch:=omega)only[↓RU,RV,RH,↓reduceIte,qE,reduceCtorEq,if_pos,w64,↓RS,RG,qA,qM,qL,ty8,zcs,zbt,zaa,zct,zbu,zam,e1]
   apply hK;clear hK K
   refine W.r fun K hK=>?_
   cases hth:thU (zat p) t k
   ·skip
    simp(disch:=omega)only[↓RU,RV,RH,↓reduceIte,qE,reduceCtorEq,if_pos,qN,↓RS,RG,qA,qM,qL,ty8,zau,zcs,zh7,zbt,zaa,zct,zh8,zbu,zam,hgu,hth]
    refine zaf.pc (zfj hgw (rP p) ht (level:=false) (line:=t.c+k) (by omega) (by simp; omega)) rfl (.inl rfl) ?_
    simp(disch:=omega)only[↓RU,RV,RH,↓reduceIte,qE,reduceCtorEq,if_pos,qN,↓RS,RG,qA,qM,qL,ty8,zau,zcs,zh7,zbt,zaa,zct,zh8,zbu,zam,hgu,hth]
    apply hK;clear hK K
    refine W.cond rfl (fun h1=>?_) (fun h1=>?_)
    ·try simp only[RL]at h1
     exact absurd h1 (by simp)
    try simp only[RL]at h1
    refine W.skip ?_
    refine XbN ?_
    refine xn ?_
    refine W.k fun K hK=>?_
    simp(disch:=omega)only[↓RU,RV,RH,↓reduceIte,qE,reduceCtorEq,if_pos,w64,↓RS,RG,qA,qM,qL,zaa,zam]
    apply hK;clear hK K
    refine xn ?_
    refine ⟨t.w - (k+1),by omega,4,k+1,_,rfl,by omega,by omega,fun j j1 j2=>?_,?_,?_,rfl⟩
    ·rcases Nat.lt_succ_iff_lt_or_eq.1 j2 with h | rfl
     ·exact hall j j1 h
     exact hth
    ·exact Nat.le_trans htk (Nat.le_add_right _ 2)
    simp [Env.put,Env.of]; omega
   skip
   have hq:zd4 (zat p) t=some (false,k):=by unfold zd4; rw [zfo.2 ⟨hk1,by omega,hth,hall⟩]
   simp(disch:=omega)only[↓RU,RV,RH,↓reduceIte,qE,reduceCtorEq,if_pos,qN,↓RS,RG,qA,qM,qL,ty8,zau,zcs,zh7,zbt,zaa,zct,zh8,zbu,zam,hgu,hth]
   refine zaf.pc (zfj hgw (rP p) ht (level:=false) (line:=t.c+k) (by omega) (by simp; omega)) rfl (.inl rfl) ?_
   simp(disch:=omega)only[↓RU,RV,RH,↓reduceIte,qE,reduceCtorEq,if_pos,qN,↓RS,RG,qA,qM,qL,ty8,zau,zcs,zh7,zbt,zaa,zct,zh8,zbu,zam,hgu,hth]
   refine z0j.ey (hy _ hq _ _ _ (Nat.le_trans htk (Nat.le_add_right _ 2))) ?_
   rintro _ _ ⟨rfl,tk3,rfl⟩
   simp(disch:=omega)only[↓RU,RV,RH,↓reduceIte,qE,reduceCtorEq,if_pos,qN,↓RS,RG,qA,qM,qL,ty8,zau,zcs,zh7,zbt,zaa,zct,zh8,zbu,zam,hgu,hth]
   apply hK;clear hK K
   refine W.cond rfl (fun h1=>?_) (fun h1=>?_)
   ·try simp only[RL]at h1
    refine W.ret ?_
    refine XBlock.ret ?_
    refine XThen.ret ?_
    refine XThen.ret ?_
    refine XBlock.ret ?_
    refine XThen.ret ?_
    refine Br rfl ?_
    exact ⟨4,.inr ⟨_,_,hq,rfl⟩⟩
   try simp only[RL]at h1
   exact absurd h1 (by simp)
  simp(disch:=omega)only[↓RU,RV,RH,↓reduceIte,qE,reduceCtorEq,if_pos,↓RS,RG,qA,qM,qL,ty8,zcs,zbt,zaa,zct,zbu,zam]
  apply hK;clear hK K
  refine xn ?_
  refine W.r fun K hK=>?_
  simp(disch:=omega)only[↓RU,RV,RH,↓reduceIte,qE,reduceCtorEq,if_pos,w64,↓RS,RG,qA,qM,qL,ty8,zcs,zbt,zaa,zct,zbu,zam]
  apply hK;clear hK K
  refine W.seq_pk 11 [some 34,some 35,some 36,some 37,some 38,some 39] [5] (by decide) (by kernel_rfl) fun K hK=>?_
  simp only[List.take_succ_cons,List.take_zero,List.drop_succ_cons,List.drop_zero]
  refine zbv rfl ?_
  simp(disch:=omega)only[↓RU,RV,RH,↓reduceIte,qE,reduceCtorEq,if_pos,w64,↓RS,RG,qA,qM,qL,ty8,zcs,zbt,zaa,zct,zbu,zam,e1,za4,zbj]
  refine zbk (.ip [zax (gP p) (rP p),.int .i64 t.r,.int .i64 t.c,.int .i64 t.h,.int .i64 t.w] 1) rfl rfl rfl (fun S' hS=>?_) ?_
  ·skip
   have k5:=(hS 5 (by decide)).trans (show _=some _ from rfl)
   simp(disch:=omega)only[↓RU,RV,RH,↓reduceIte,qE,reduceCtorEq,if_pos,w64,↓RS,RG,qA,qM,qL,ty8,zcs,zbt,zaa,zct,zbu,zam,e1,zcf,zc9,zee,zef,k5]
  refine zbk (.ip [zax (gP p) (rP p),.int .i64 t.r,.int .i64 t.c,.int .i64 t.h,.int .i64 t.w] 4) rfl rfl rfl (fun S' hS=>?_) ?_
  ·skip
   have k5:=(hS 5 (by decide)).trans (show _=some _ from rfl)
   simp(disch:=omega)only[↓RU,RV,RH,↓reduceIte,qE,reduceCtorEq,if_pos,w64,↓RS,RG,qA,qM,qL,ty8,zcs,zbt,zaa,zct,zbu,zam,e1,zcf,zc9,zee,zef,k5]
  refine zbk (.int .i64 t.w) rfl rfl rfl (fun S' hS=>?_) ?_
  ·skip
   have k5:=(hS 5 (by decide)).trans (show _=some _ from rfl)
   simp(disch:=omega)only[↓RU,RV,RH,↓reduceIte,qE,reduceCtorEq,if_pos,w64,↓RS,RG,qA,qM,qL,ty8,zcs,zbt,zaa,zct,zbu,zam,e1,zcf,zc9,zee,zef,k5]
  refine zbk (.ref 5 (tk2+1) 1) rfl rfl rfl (fun S' hS=>?_) ?_
  ·skip
   have k5:=(hS 5 (by decide)).trans (show _=some _ from rfl)
   simp(disch:=omega)only[↓RU,RV,RH,↓reduceIte,qE,reduceCtorEq,if_pos,w64,↓RS,RG,qA,qM,qL,ty8,zcs,zbt,zaa,zct,zbu,zam,e1,zcf,zc9,zee,zef,k5]
  refine zbk (.ref 5 (tk2+1) 4) rfl rfl rfl (fun S' hS=>?_) ?_
  ·skip
   have k5:=(hS 5 (by decide)).trans (show _=some _ from rfl)
   simp(disch:=omega)only[↓RU,RV,RH,↓reduceIte,qE,reduceCtorEq,if_pos,w64,↓RS,RG,qA,qM,qL,ty8,zcs,zbt,zaa,zct,zbu,zam,e1,zcf,zc9,zee,zef,k5]
  refine zbk (.int .i64 k) rfl rfl rfl (fun S' hS=>?_) ?_
  ·skip
   have k5:=(hS 5 (by decide)).trans (show _=some _ from rfl)
   simp(disch:=omega)only[↓RU,RV,RH,↓reduceIte,qE,reduceCtorEq,if_pos,w64,↓RS,RG,qA,qM,qL,ty8,zcs,zbt,zaa,zct,zbu,zam,e1,zcf,zc9,zee,zef,k5]
  refine zbv rfl ?_
  simp(disch:=omega)only[↓RU,RV,RH,↓reduceIte,qE,reduceCtorEq,if_pos,w64,↓RS,RG,qA,qM,qL,ty8,zcs,zbt,zaa,zct,zbu,zam,e1,za4,zbj]
  refine zbv rfl ?_
  simp(disch:=omega)only[↓RU,RV,RH,↓reduceIte,qE,reduceCtorEq,if_pos,w64,↓RS,RG,qA,qM,qL,ty8,zcs,zbt,zaa,zct,zbu,zam,e1,za4,zbj]
  refine zbv rfl ?_
  simp(disch:=omega)only[↓RU,RV,RH,↓reduceIte,qE,reduceCtorEq,if_pos,w64,↓RS,RG,qA,qM,qL,ty8,zcs,zbt,zaa,zct,zbu,zam,e1,za4,zbj]
  refine zbv rfl ?_
  simp(disch:=omega)only[↓RU,RV,RH,↓reduceIte,qE,reduceCtorEq,if_pos,w64,↓RS,RG,qA,qM,qL,ty8,zcs,zbt,zaa,zct,zbu,zam,e1,za4,zbj]
  refine zgl ?_
  simp(disch:=omega)only[↓RU,RV,RH,↓reduceIte,qE,reduceCtorEq,if_pos,w64,↓RS,RG,qA,qM,qL,ty8,zcs,zbt,zaa,zct,zbu,zam,e1]
  apply hK;clear hK K
  refine W.r fun K hK=>?_
  cases hth:thU (zat p) t k
  ·skip
   simp(disch:=omega)only[↓RU,RV,RH,↓reduceIte,qE,reduceCtorEq,if_pos,qN,↓RS,RG,qA,qM,qL,ty8,zau,zcs,zh7,zbt,zaa,zct,zh8,zbu,zam,hgu,hth]
   refine zaf.pc (zfj hgw (rP p) ht (level:=false) (line:=t.c+k) (by omega) (by simp; omega)) rfl (.inl rfl) ?_
   simp(disch:=omega)only[↓RU,RV,RH,↓reduceIte,qE,reduceCtorEq,if_pos,qN,↓RS,RG,qA,qM,qL,ty8,zau,zcs,zh7,zbt,zaa,zct,zh8,zbu,zam,hgu,hth]
   apply hK;clear hK K
   refine W.cond rfl (fun h1=>?_) (fun h1=>?_)
   ·try simp only[RL]at h1
    exact absurd h1 (by simp)
   try simp only[RL]at h1
   refine W.skip ?_
   refine XbN ?_
   refine xn ?_
   refine W.k fun K hK=>?_
   simp(disch:=omega)only[↓RU,RV,RH,↓reduceIte,qE,reduceCtorEq,if_pos,w64,↓RS,RG,qA,qM,qL,zaa,zam]
   apply hK;clear hK K
   refine xn ?_
   refine ⟨t.w - (k+1),by omega,4,k+1,_,rfl,by omega,by omega,fun j j1 j2=>?_,?_,?_,rfl⟩
   ·rcases Nat.lt_succ_iff_lt_or_eq.1 j2 with h | rfl
    ·exact hall j j1 h
    exact hth
   ·exact Nat.le_trans htk (Nat.le_add_right _ 2)
   simp [Env.put,Env.of]; omega
  skip
  have hq:zd4 (zat p) t=some (false,k):=by unfold zd4; rw [zfo.2 ⟨hk1,by omega,hth,hall⟩]
  simp(disch:=omega)only[↓RU,RV,RH,↓reduceIte,qE,reduceCtorEq,if_pos,qN,↓RS,RG,qA,qM,qL,ty8,zau,zcs,zh7,zbt,zaa,zct,zh8,zbu,zam,hgu,hth]
  refine zaf.pc (zfj hgw (rP p) ht (level:=false) (line:=t.c+k) (by omega) (by simp; omega)) rfl (.inl rfl) ?_
  simp(disch:=omega)only[↓RU,RV,RH,↓reduceIte,qE,reduceCtorEq,if_pos,qN,↓RS,RG,qA,qM,qL,ty8,zau,zcs,zh7,zbt,zaa,zct,zh8,zbu,zam,hgu,hth]
  refine z0j.ey (hy _ hq _ _ _ (Nat.le_trans htk (Nat.le_add_right _ 2))) ?_
  rintro _ _ ⟨rfl,tk3,rfl⟩
  simp(disch:=omega)only[↓RU,RV,RH,↓reduceIte,qE,reduceCtorEq,if_pos,qN,↓RS,RG,qA,qM,qL,ty8,zau,zcs,zh7,zbt,zaa,zct,zh8,zbu,zam,hgu,hth]
  apply hK;clear hK K
  refine W.cond rfl (fun h1=>?_) (fun h1=>?_)
  ·try simp only[RL]at h1
   refine W.ret ?_
   refine XBlock.ret ?_
   refine XThen.ret ?_
   refine XThen.ret ?_
   refine XBlock.ret ?_
   refine XThen.ret ?_
   refine Br rfl ?_
   exact ⟨4,.inr ⟨_,_,hq,rfl⟩⟩
  try simp only[RL]at h1
  exact absurd h1 (by simp)
 try simp only[RL]at h
 obtain rfl:k=t.w:=by omega
 refine W.exit ?_
 refine xe ?_
 refine xe ?_
 refine XBlock.hit ?_
 refine xn ?_
 refine W.r fun K hK=>?_
 simp(disch:=omega)only[↓RU,RV,RH,↓reduceIte,qE,reduceCtorEq,if_pos,w64,↓RS,RG,qA,qM,qL,ty8,zcs,zbt,zaa,zct,zbu,zam]
 apply hK;clear hK K
 refine W.block ?_
 refine W.loop [0,1,6] (fun n vs S=>∃ k tk2:Nat,n=t.h - k∧1≤k∧k≤t.h∧(∀ j,1≤j→j<k→thL (zat p) t j=false)∧tk≤tk2∧vs=[.yl l,.ip [zax (gP p) (rP p),.int .i64 t.r,.int .i64 t.c,.int .i64 t.h,.int .i64 t.w] 0,.int .i64 ((t.r+k:Nat):Int)]∧S=⟨[a,b,c,d],tk2⟩) (t.h - 1) ?_ ?_
 ·refine ⟨4,1,_,rfl,by omega,by omega,fun j _ _=>by omega,htk,?_,rfl⟩
  simp [Env.put,Env.of,zad]
 rintro n vs S - ⟨k,tk2,rfl,hk1,h_k,hall2,htk,rfl,rfl⟩
 refine W.seq ?_
 refine W.r fun K hK=>?_
 simp(disch:=omega)only[↓RU,RV,RH,↓reduceIte,qE,reduceCtorEq,if_pos,w64,↓RS,RG,qA,qM,qL,ty8,zcs,zbt,zaa,zct,zbu,zam]
 apply hK;clear hK K
 refine W.cond rfl (fun h=>?_) (fun h=>?_)
 ·try simp only[RL]at h
  have hgu:=yjb hp ht hk1 (show k<t.h by omega)
  have e1:((t.h:Nat):Int) - ((k:Nat):Int)=((t.h - k:Nat):Int):=by omega
  refine W.skip ?_
  refine xn ?_
  refine W.seq ?_
  refine W.block ?_
  refine W.seq (W.draw_two (r1:=[_,_,_,_,_,_]) (r2:=[_,_,_,_,_,_]) [0,1,2,3,4,5] [0,1,3,2,4,5] [0,1] 2 3 1 rfl (by kernel_rfl) (by kernel_rfl) rfl rfl (fun K hK=>?_) (fun K hK=>?_))
  ·simp(disch:=omega)only[↓RU,RV,RH,↓reduceIte,qE,reduceCtorEq,if_pos,↓RS,RG,qA,qM,qL,ty8,zcs,zbt,zaa,zct,zbu,zam]
   apply hK;clear hK K
   refine xn ?_
   refine W.r fun K hK=>?_
   simp(disch:=omega)only[↓RU,RV,RH,↓reduceIte,qE,reduceCtorEq,if_pos,w64,↓RS,RG,qA,qM,qL,ty8,zcs,zbt,zaa,zct,zbu,zam]
   apply hK;clear hK K
   refine W.seq_pk 11 [some 81,some 82,some 83,some 84,some 85,some 86] [4] (by decide) (by kernel_rfl) fun K hK=>?_
   simp only[List.take_succ_cons,List.take_zero,List.drop_succ_cons,List.drop_zero]
   refine zbv rfl ?_
   simp(disch:=omega)only[↓RU,RV,RH,↓reduceIte,qE,reduceCtorEq,if_pos,w64,↓RS,RG,qA,qM,qL,ty8,zcs,zbt,zaa,zct,zbu,zam,e1,za4,zbj]
   refine zbk (.ip [zax (gP p) (rP p),.int .i64 t.r,.int .i64 t.c,.int .i64 t.h,.int .i64 t.w] 1) rfl rfl rfl (fun S' hS=>?_) ?_
   ·skip
    have k4:=(hS 4 (by decide)).trans (show _=some _ from rfl)
    simp(disch:=omega)only[↓RU,RV,RH,↓reduceIte,qE,reduceCtorEq,if_pos,w64,↓RS,RG,qA,qM,qL,ty8,zcs,zbt,zaa,zct,zbu,zam,e1,zcf,zc9,zee,zef,k4]
   refine zbk (.ip [zax (gP p) (rP p),.int .i64 t.r,.int .i64 t.c,.int .i64 t.h,.int .i64 t.w] 3) rfl rfl rfl (fun S' hS=>?_) ?_
   ·skip
    have k4:=(hS 4 (by decide)).trans (show _=some _ from rfl)
    simp(disch:=omega)only[↓RU,RV,RH,↓reduceIte,qE,reduceCtorEq,if_pos,w64,↓RS,RG,qA,qM,qL,ty8,zcs,zbt,zaa,zct,zbu,zam,e1,zcf,zc9,zee,zef,k4]
   refine zbk (.int .i64 t.h) rfl rfl rfl (fun S' hS=>?_) ?_
   ·skip
    have k4:=(hS 4 (by decide)).trans (show _=some _ from rfl)
    simp(disch:=omega)only[↓RU,RV,RH,↓reduceIte,qE,reduceCtorEq,if_pos,w64,↓RS,RG,qA,qM,qL,ty8,zcs,zbt,zaa,zct,zbu,zam,e1,zcf,zc9,zee,zef,k4]
   refine zbk (.ref 4 tk2 1) rfl rfl rfl (fun S' hS=>?_) ?_
   ·skip
    have k4:=(hS 4 (by decide)).trans (show _=some _ from rfl)
    simp(disch:=omega)only[↓RU,RV,RH,↓reduceIte,qE,reduceCtorEq,if_pos,w64,↓RS,RG,qA,qM,qL,ty8,zcs,zbt,zaa,zct,zbu,zam,e1,zcf,zc9,zee,zef,k4]
   refine zbk (.ref 4 tk2 3) rfl rfl rfl (fun S' hS=>?_) ?_
   ·skip
    have k4:=(hS 4 (by decide)).trans (show _=some _ from rfl)
    simp(disch:=omega)only[↓RU,RV,RH,↓reduceIte,qE,reduceCtorEq,if_pos,w64,↓RS,RG,qA,qM,qL,ty8,zcs,zbt,zaa,zct,zbu,zam,e1,zcf,zc9,zee,zef,k4]
   refine zbk (.int .i64 k) rfl rfl rfl (fun S' hS=>?_) ?_
   ·skip
    have k4:=(hS 4 (by decide)).trans (show _=some _ from rfl)
    simp(disch:=omega)only[↓RU,RV,RH,↓reduceIte,qE,reduceCtorEq,if_pos,w64,↓RS,RG,qA,qM,qL,ty8,zcs,zbt,zaa,zct,zbu,zam,e1,zcf,zc9,zee,zef,k4]
   refine zbv rfl ?_
   simp(disch:=omega)only[↓RU,RV,RH,↓reduceIte,qE,reduceCtorEq,if_pos,w64,↓RS,RG,qA,qM,qL,ty8,zcs,zbt,zaa,zct,zbu,zam,e1,za4,zbj]
   refine zbv rfl ?_
   simp(disch:=omega)only[↓RU,RV,RH,↓reduceIte,qE,reduceCtorEq,if_pos,w64,↓RS,RG,qA,qM,qL,ty8,zcs,zbt,zaa,zct,zbu,zam,e1,za4,zbj]
   refine zbv rfl ?_
   simp(disch:=omega)only[↓RU,RV,RH,↓reduceIte,qE,reduceCtorEq,if_pos,w64,↓RS,RG,qA,qM,qL,ty8,zcs,zbt,zaa,zct,zbu,zam,e1,za4,zbj]
   refine zbv rfl ?_
   simp(disch:=omega)only[↓RU,RV,RH,↓reduceIte,qE,reduceCtorEq,if_pos,w64,↓RS,RG,qA,qM,qL,ty8,zcs,zbt,zaa,zct,zbu,zam,e1,za4,zbj]
   refine zgl ?_
   simp(disch:=omega)only[↓RU,RV,RH,↓reduceIte,qE,reduceCtorEq,if_pos,w64,↓RS,RG,qA,qM,qL,ty8,zcs,zbt,zaa,zct,zbu,zam,e1]
   apply hK;clear hK K
   refine W.r fun K hK=>?_
   cases hth:thL (zat p) t k
   ·skip
    simp(disch:=omega)only[↓RU,RV,RH,↓reduceIte,qE,reduceCtorEq,if_pos,qN,↓RS,RG,qA,qM,qL,ty8,zau,zcs,zh7,zbt,zaa,zct,zh8,zbu,zam,hgu,hth]
    refine zaf.pc (zfj hgw (rP p) ht (level:=true) (line:=t.r+k) (by omega) (by simp; omega)) rfl (.inl rfl) ?_
    simp(disch:=omega)only[↓RU,RV,RH,↓reduceIte,qE,reduceCtorEq,if_pos,qN,↓RS,RG,qA,qM,qL,ty8,zau,zcs,zh7,zbt,zaa,zct,zh8,zbu,zam,hgu,hth]
    apply hK;clear hK K
    refine W.cond rfl (fun h1=>?_) (fun h1=>?_)
    ·try simp only[RL]at h1
     exact absurd h1 (by simp)
    try simp only[RL]at h1
    refine W.skip ?_
    refine XbN ?_
    refine xn ?_
    refine W.k fun K hK=>?_
    simp(disch:=omega)only[↓RU,RV,RH,↓reduceIte,qE,reduceCtorEq,if_pos,w64,↓RS,RG,qA,qM,qL,zaa,zam]
    apply hK;clear hK K
    refine xn ?_
    refine ⟨t.h - (k+1),by omega,4,k+1,_,rfl,by omega,by omega,fun j j1 j2=>?_,?_,?_,rfl⟩
    ·rcases Nat.lt_succ_iff_lt_or_eq.1 j2 with h | rfl
     ·exact hall2 j j1 h
     exact hth
    ·exact Nat.le_trans htk (Nat.le_add_right _ 2)
    simp [Env.put,Env.of]; omega
   skip
   have hq:zd4 (zat p) t=some (true,k):=by unfold zd4; rw [ziv.2 hall,zfo.2 ⟨hk1,by omega,hth,hall2⟩]
   simp(disch:=omega)only[↓RU,RV,RH,↓reduceIte,qE,reduceCtorEq,if_pos,qN,↓RS,RG,qA,qM,qL,ty8,zau,zcs,zh7,zbt,zaa,zct,zh8,zbu,zam,hgu,hth]
   refine zaf.pc (zfj hgw (rP p) ht (level:=true) (line:=t.r+k) (by omega) (by simp; omega)) rfl (.inl rfl) ?_
   simp(disch:=omega)only[↓RU,RV,RH,↓reduceIte,qE,reduceCtorEq,if_pos,qN,↓RS,RG,qA,qM,qL,ty8,zau,zcs,zh7,zbt,zaa,zct,zh8,zbu,zam,hgu,hth]
   refine z0j.ey (hy _ hq _ _ _ (Nat.le_trans htk (Nat.le_add_right _ 2))) ?_
   rintro _ _ ⟨rfl,tk3,rfl⟩
   simp(disch:=omega)only[↓RU,RV,RH,↓reduceIte,qE,reduceCtorEq,if_pos,qN,↓RS,RG,qA,qM,qL,ty8,zau,zcs,zh7,zbt,zaa,zct,zh8,zbu,zam,hgu,hth]
   apply hK;clear hK K
   refine W.cond rfl (fun h1=>?_) (fun h1=>?_)
   ·try simp only[RL]at h1
    refine W.ret ?_
    refine XBlock.ret ?_
    refine XThen.ret ?_
    refine XThen.ret ?_
    refine XBlock.ret ?_
    refine Br rfl ?_
    exact ⟨4,.inr ⟨_,_,hq,rfl⟩⟩
   try simp only[RL]at h1
   exact absurd h1 (by simp)
  simp(disch:=omega)only[↓RU,RV,RH,↓reduceIte,qE,reduceCtorEq,if_pos,↓RS,RG,qA,qM,qL,ty8,zcs,zbt,zaa,zct,zbu,zam]
  apply hK;clear hK K
  refine xn ?_
  refine W.r fun K hK=>?_
  simp(disch:=omega)only[↓RU,RV,RH,↓reduceIte,qE,reduceCtorEq,if_pos,w64,↓RS,RG,qA,qM,qL,ty8,zcs,zbt,zaa,zct,zbu,zam]
  apply hK;clear hK K
  refine W.seq_pk 11 [some 81,some 82,some 83,some 84,some 85,some 86] [5] (by decide) (by kernel_rfl) fun K hK=>?_
  simp only[List.take_succ_cons,List.take_zero,List.drop_succ_cons,List.drop_zero]
  refine zbv rfl ?_
  simp(disch:=omega)only[↓RU,RV,RH,↓reduceIte,qE,reduceCtorEq,if_pos,w64,↓RS,RG,qA,qM,qL,ty8,zcs,zbt,zaa,zct,zbu,zam,e1,za4,zbj]
  refine zbk (.ip [zax (gP p) (rP p),.int .i64 t.r,.int .i64 t.c,.int .i64 t.h,.int .i64 t.w] 1) rfl rfl rfl (fun S' hS=>?_) ?_
  ·skip
   have k5:=(hS 5 (by decide)).trans (show _=some _ from rfl)
   simp(disch:=omega)only[↓RU,RV,RH,↓reduceIte,qE,reduceCtorEq,if_pos,w64,↓RS,RG,qA,qM,qL,ty8,zcs,zbt,zaa,zct,zbu,zam,e1,zcf,zc9,zee,zef,k5]
  refine zbk (.ip [zax (gP p) (rP p),.int .i64 t.r,.int .i64 t.c,.int .i64 t.h,.int .i64 t.w] 3) rfl rfl rfl (fun S' hS=>?_) ?_
  ·skip
   have k5:=(hS 5 (by decide)).trans (show _=some _ from rfl)
   simp(disch:=omega)only[↓RU,RV,RH,↓reduceIte,qE,reduceCtorEq,if_pos,w64,↓RS,RG,qA,qM,qL,ty8,zcs,zbt,zaa,zct,zbu,zam,e1,zcf,zc9,zee,zef,k5]
  refine zbk (.int .i64 t.h) rfl rfl rfl (fun S' hS=>?_) ?_
  ·skip
   have k5:=(hS 5 (by decide)).trans (show _=some _ from rfl)
   simp(disch:=omega)only[↓RU,RV,RH,↓reduceIte,qE,reduceCtorEq,if_pos,w64,↓RS,RG,qA,qM,qL,ty8,zcs,zbt,zaa,zct,zbu,zam,e1,zcf,zc9,zee,zef,k5]
  refine zbk (.ref 5 (tk2+1) 1) rfl rfl rfl (fun S' hS=>?_) ?_
  ·skip
   have k5:=(hS 5 (by decide)).trans (show _=some _ from rfl)
   simp(disch:=omega)only[↓RU,RV,RH,↓reduceIte,qE,reduceCtorEq,if_pos,w64,↓RS,RG,qA,qM,qL,ty8,zcs,zbt,zaa,zct,zbu,zam,e1,zcf,zc9,zee,zef,k5]
  refine zbk (.ref 5 (tk2+1) 3) rfl rfl rfl (fun S' hS=>?_) ?_
  ·skip
   have k5:=(hS 5 (by decide)).trans (show _=some _ from rfl)
   simp(disch:=omega)only[↓RU,RV,RH,↓reduceIte,qE,reduceCtorEq,if_pos,w64,↓RS,RG,qA,qM,qL,ty8,zcs,zbt,zaa,zct,zbu,zam,e1,zcf,zc9,zee,zef,k5]
  refine zbk (.int .i64 k) rfl rfl rfl (fun S' hS=>?_) ?_
  ·skip
   have k5:=(hS 5 (by decide)).trans (show _=some _ from rfl)
   simp(disch:=omega)only[↓RU,RV,RH,↓reduceIte,qE,reduceCtorEq,if_pos,w64,↓RS,RG,qA,qM,qL,ty8,zcs,zbt,zaa,zct,zbu,zam,e1,zcf,zc9,zee,zef,k5]
  refine zbv rfl ?_
  simp(disch:=omega)only[↓RU,RV,RH,↓reduceIte,qE,reduceCtorEq,if_pos,w64,↓RS,RG,qA,qM,qL,ty8,zcs,zbt,zaa,zct,zbu,zam,e1,za4,zbj]
  refine zbv rfl ?_
  simp(disch:=omega)only[↓RU,RV,RH,↓reduceIte,qE,reduceCtorEq,if_pos,w64,↓RS,RG,qA,qM,qL,ty8,zcs,zbt,zaa,zct,zbu,zam,e1,za4,zbj]
  refine zbv rfl ?_
  simp(disch:=omega)only[↓RU,RV,RH,↓reduceIte,qE,reduceCtorEq,if_pos,w64,↓RS,RG,qA,qM,qL,ty8,zcs,zbt,zaa,zct,zbu,zam,e1,za4,zbj]
  refine zbv rfl ?_
  simp(disch:=omega)only[↓RU,RV,RH,↓reduceIte,qE,reduceCtorEq,if_pos,w64,↓RS,RG,qA,qM,qL,ty8,zcs,zbt,zaa,zct,zbu,zam,e1,za4,zbj]
  refine zgl ?_
  simp(disch:=omega)only[↓RU,RV,RH,↓reduceIte,qE,reduceCtorEq,if_pos,w64,↓RS,RG,qA,qM,qL,ty8,zcs,zbt,zaa,zct,zbu,zam,e1]
  apply hK;clear hK K
  refine W.r fun K hK=>?_
  cases hth:thL (zat p) t k
  ·skip
   simp(disch:=omega)only[↓RU,RV,RH,↓reduceIte,qE,reduceCtorEq,if_pos,qN,↓RS,RG,qA,qM,qL,ty8,zau,zcs,zh7,zbt,zaa,zct,zh8,zbu,zam,hgu,hth]
   refine zaf.pc (zfj hgw (rP p) ht (level:=true) (line:=t.r+k) (by omega) (by simp; omega)) rfl (.inl rfl) ?_
   simp(disch:=omega)only[↓RU,RV,RH,↓reduceIte,qE,reduceCtorEq,if_pos,qN,↓RS,RG,qA,qM,qL,ty8,zau,zcs,zh7,zbt,zaa,zct,zh8,zbu,zam,hgu,hth]
   apply hK;clear hK K
   refine W.cond rfl (fun h1=>?_) (fun h1=>?_)
   ·try simp only[RL]at h1
    exact absurd h1 (by simp)
   try simp only[RL]at h1
   refine W.skip ?_
   refine XbN ?_
   refine xn ?_
   refine W.k fun K hK=>?_
   simp(disch:=omega)only[↓RU,RV,RH,↓reduceIte,qE,reduceCtorEq,if_pos,w64,↓RS,RG,qA,qM,qL,zaa,zam]
   apply hK;clear hK K
   refine xn ?_
   refine ⟨t.h - (k+1),by omega,4,k+1,_,rfl,by omega,by omega,fun j j1 j2=>?_,?_,?_,rfl⟩
   ·rcases Nat.lt_succ_iff_lt_or_eq.1 j2 with h | rfl
    ·exact hall2 j j1 h
    exact hth
   ·exact Nat.le_trans htk (Nat.le_add_right _ 2)
   simp [Env.put,Env.of]; omega
  skip
  have hq:zd4 (zat p) t=some (true,k):=by unfold zd4; rw [ziv.2 hall,zfo.2 ⟨hk1,by omega,hth,hall2⟩]
  simp(disch:=omega)only[↓RU,RV,RH,↓reduceIte,qE,reduceCtorEq,if_pos,qN,↓RS,RG,qA,qM,qL,ty8,zau,zcs,zh7,zbt,zaa,zct,zh8,zbu,zam,hgu,hth]
  refine zaf.pc (zfj hgw (rP p) ht (level:=true) (line:=t.r+k) (by omega) (by simp; omega)) rfl (.inl rfl) ?_
  simp(disch:=omega)only[↓RU,RV,RH,↓reduceIte,qE,reduceCtorEq,if_pos,qN,↓RS,RG,qA,qM,qL,ty8,zau,zcs,zh7,zbt,zaa,zct,zh8,zbu,zam,hgu,hth]
  refine z0j.ey (hy _ hq _ _ _ (Nat.le_trans htk (Nat.le_add_right _ 2))) ?_
  rintro _ _ ⟨rfl,tk3,rfl⟩
  simp(disch:=omega)only[↓RU,RV,RH,↓reduceIte,qE,reduceCtorEq,if_pos,qN,↓RS,RG,qA,qM,qL,ty8,zau,zcs,zh7,zbt,zaa,zct,zh8,zbu,zam,hgu,hth]
  apply hK;clear hK K
  refine W.cond rfl (fun h1=>?_) (fun h1=>?_)
  ·try simp only[RL]at h1
   refine W.ret ?_
   refine XBlock.ret ?_
   refine XThen.ret ?_
   refine XThen.ret ?_
   refine XBlock.ret ?_
   refine Br rfl ?_
   exact ⟨4,.inr ⟨_,_,hq,rfl⟩⟩
  try simp only[RL]at h1
  exact absurd h1 (by simp)
 try simp only[RL]at h
 obtain rfl:k=t.h:=by omega
 refine W.exit ?_
 refine xe ?_
 refine xe ?_
 refine XBlock.hit ?_
 refine zis.norm rfl ?_
 exact ⟨4,.inl ⟨_,z47.2 ⟨hall,hall2⟩,rfl⟩⟩
def yf5:PV := .agg [.bool false,.nilp,.int .i64 0,.int .i64 0,.int .i64 0,.int .i64 0,.nilp,.int .i64 0,.int .i64 0,.int .i64 0,.int .i64 0]
def zx2 (p:List Txt) (t:Pt):PV:=match zd4 (zat p) t with | some q => .tup [z2r (gP p) (rP p) t q,.bool true] | none => .tup [yf5,.bool false]
theorem z20 {p:List Txt} (hp:zcc p=true) {t:Pt} (ht:t.In p.length (za1 p).length):PC Tryz.prog 73 [ziu (gP p) (rP p) t.rect] (zx2 p t) false:=by
 simp only[ziu,Pt.rect,Rect.cells]
 refine PC.ofV ⟨Tryz.func73,by kernel_rfl,rfl,by kernel_rfl⟩ zbl mixed (by show 1≤Tryz.f73.ntmps; decide) ?_
 refine V.seq_region fun K hK=>?_
 simp(disch:=omega)only[↓RU,RV,RH,↓reduceIte,qE,reduceCtorEq,if_pos,↓RS,RG,qA,qM,qL,ty8,zau,zcs,zh7,zbt,zaa,zct,zh8,zbu]
 apply hK;clear hK K
 refine V.seq ?_
 refine V.seq_region fun K hK=>?_
 simp(disch:=omega)only[↓RU,RV,RH,↓reduceIte,qE,reduceCtorEq,if_pos,qN,↓RS,RG,qA,qM,qL,ty8,zcs,zbt,zaa,zct,zbu]
 refine zaf.pc (yfi (gP p) (rP p) t.rect) rfl (.inr rfl) ?_
 simp(disch:=omega)only[↓RU,RV,RH,↓reduceIte,qE,reduceCtorEq,if_pos,qN,↓RS,RG,qA,qM,qL,ty8,zcs,zbt,zaa,zct,zbu]
 apply hK;clear hK K
 refine V.block ?_
 refine V.rangeFunc [2,3] rfl fun l r hr hst hpd=>?_
 refine ⟨_,yb2 hp ht l _ _ _ _ _ (fun q => .arr 1 60 11 [.bool q.1,zax (gP p) (rP p),.int .i64 (t.one q).r,.int .i64 (t.one q).c,.int .i64 (t.one q).h,.int .i64 (t.one q).w,zax (gP p) (rP p),.int .i64 (t.two q).r,.int .i64 (t.two q).c,.int .i64 (t.two q).h,.int .i64 (t.two q).w]) (fun _ => .arr 2 4 1 [.bool true]) (fun _ => .lp 3 l ({ r with state := .done,pending:=some .ret },[2,3]) [.ref 1 1 0,.ref 2 2 0]) (fun q hq x y tk2 htk=>?_),?_⟩
 ·refine Ey.of (o:=3) zbl mixed rfl hr hst rfl ?_
  change W _ _ _ _ (Env.put (Env.of [2,3] [.ref 1 1 0,.ref 2 2 0]) (some 7) (.agg [.bool q.1,zax (gP p) (rP p),.int .i64 (t.one q).r,.int .i64 (t.one q).c,.int .i64 (t.one q).h,.int .i64 (t.one q).w,zax (gP p) (rP p),.int .i64 (t.two q).r,.int .i64 (t.two q).c,.int .i64 (t.two q).h,.int .i64 (t.two q).w])) _
  refine W.k fun K hK=>?_
  simp(disch:=omega)only[↓RU,RV,RH,↓reduceIte,qE,reduceCtorEq,if_pos,↓RS,RG,qA,qM,qL,ty8,zau,zcs,zh7,zbt,zaa,zct,zh8,zbu]
  apply hK;clear hK K
  refine xn ⟨_,_,_,_,rfl,hst,?_⟩
  simp only[List.set_cons_succ,List.set_cons_zero]
  refine W.block ?_
  refine W.r fun K hK=>?_
  simp(disch:=omega)only[↓RU,RV,RH,↓reduceIte,qE,reduceCtorEq,if_pos,↓RS,RG,qA,qM,qL,ty8,zau,zcs,zh7,zbt,zaa,zct,zh8,zbu]
  apply hK;clear hK K
  refine W.ret ?_
  refine XBlock.ret ?_
  exact ⟨_,_,_,_,6,rfl,rfl,_,rfl⟩
 rintro v S2 (⟨tk2,hq,rfl⟩ | ⟨q,tk2,hq,rfl⟩)
 ·skip
  refine ⟨_,_,_,_,.normal,rfl,by rw [hst]; simp,by rw [hpd]; rfl,?_⟩
  change XBlock _ _ _ _ ⟨[_,_,_],_⟩
  refine XbN ?_
  refine xn ?_
  refine W.v ?_
  refine W.r fun K hK=>?_
  simp(disch:=omega)only[↓RU,RV,RH,↓reduceIte,qE,reduceCtorEq,if_pos,↓RS,RG,qA,qM,qL,ty8,zau,zcs,zh7,zbt,zaa,zct,zh8,zbu]
  apply hK;clear hK K
  refine W.ret ?_
  refine Br rfl ?_
  simp only[zx2,hq]
  rfl
 skip
 refine ⟨_,_,_,_,.ret,rfl,by simp,rfl,?_⟩
 change XBlock _ _ _ _ ⟨[_,_,_],_⟩
 refine XBlock.ret ?_
 refine XThen.ret ?_
 refine Br rfl ?_
 simp only[zx2,hq]
 rfl
theorem z29 {p:List Txt} (hs:Sm p) (hg:zc7 p=true):PC Tryz.prog 80 [zbc p] (.bool (ybh p)) true:=by
 have hp:=hs.rows
 have hsm:=zb3 hg
 obtain ⟨row0,hrow0,hrm0⟩:=zah hsm.1
 have hhd:=zc2 hrow0
 have hw6:=hsm.2.2 row0 hrm0
 have hw1:=zfe hg hrow0
 obtain ⟨c0,hc0,-⟩:=zah (show 0<row0.length by omega)
 have hone:ybh p=p.all (fun row=>row.all fun c=>decide (c=c0)):=by simp [ybh,hhd,hc0]
 refine PC.of ⟨Tryz.func80,by kernel_rfl,rfl,by kernel_rfl⟩ zbl mixed (by show 1≤Tryz.f80.ntmps; decide) ?_
 refine W.r fun K hK=>?_
 simp(disch:=omega)only[↓RU,RV,RH,↓reduceIte,qE,reduceCtorEq,if_pos]
 apply hK;clear hK K
 refine W.seq ?_
 refine W.r fun K hK=>?_
 simp(disch:=omega)only[↓RU,RV,RH,↓reduceIte,qE,reduceCtorEq,if_pos]
 apply hK;clear hK K
 refine W.block ?_
 refine W.loop [0,3] (fun n vs S=>∃ i:Nat,n=p.length - i∧i≤p.length∧((p.take i).all (fun row=>row.all fun c=>decide (c=c0))=true)∧vs=[zbc p,.int .i64 i]∧S=⟨[],0⟩) (p.length) ?_ ?_
 ·refine ⟨0,0,rfl,Nat.zero_le _,rfl,?_,rfl⟩
  simp [Env.put,Env.of,zad]
 rintro n vs S - ⟨i,rfl,h_i,hall,rfl,rfl⟩
 refine W.seq ?_
 refine W.r fun K hK=>?_
 simp(disch:=omega)only[↓RU,RV,RH,↓reduceIte,qE,reduceCtorEq,if_pos,w64,ty6,zaa,zag]
 apply hK;clear hK K
 refine W.cond rfl (fun h=>?_) (fun h=>?_)
 ·try simp only[RL]at h
  obtain ⟨row,hrow,hrm⟩:=zah (show i<p.length by omega)
  have hrl:=hsm.2.2 row hrm
  refine W.skip ?_
  refine xn ?_
  refine W.seq ?_
  refine W.block ?_
  refine W.r fun K hK=>?_
  simp(disch:=omega)only[↓RU,RV,RH,↓reduceIte,qE,reduceCtorEq,if_pos]
  apply hK;clear hK K
  refine W.block ?_
  refine W.loop [0,3,4] (fun n vs S=>∃ k:Nat,n=row.length - k∧k≤row.length∧((row.take k).all (fun c=>decide (c=c0))=true)∧vs=[zbc p,.int .i64 i,.int .i64 k]∧S=⟨[],0⟩) (row.length) ?_ ?_
  ·refine ⟨0,0,rfl,Nat.zero_le _,rfl,?_,rfl⟩
   simp [Env.put,Env.of]
  rintro n vs S - ⟨k,rfl,h_k,hr2,rfl,rfl⟩
  refine W.seq ?_
  refine W.r fun K hK=>?_
  simp(disch:=omega)only[↓RU,RV,RH,↓reduceIte,qE,reduceCtorEq,if_pos,w64,ty6,zaa,zag,hrow]
  apply hK;clear hK K
  refine W.cond rfl (fun h1=>?_) (fun h1=>?_)
  ·try simp only[RL]at h1
   obtain ⟨c,hc,hcm⟩:=zah (show k<row.length by omega)
   refine W.skip ?_
   refine xn ?_
   refine W.seq ?_
   refine W.block ?_
   refine W.seq_draw (by kernel_rfl) fun K hK=>?_
   simp(disch:=omega)only[↓RU,RV,RH,↓reduceIte,qE,reduceCtorEq,if_pos,w64,ty6,zag,zfz,hrow,hc,hrow0,hc0,Int.toNat_zero,Nat.zero_mul,qZ]
   apply hK;clear hK K
   refine W.cond rfl (fun h2=>?_) (fun h2=>?_)
   ·try simp only[RL]at h2
    have hne:¬ c=c0:=by rintro rfl; simp at h2
    refine W.r fun K hK=>?_
    simp(disch:=omega)only[↓RU,RV,RH,↓reduceIte,qE,reduceCtorEq,if_pos]
    apply hK;clear hK K
    refine W.ret ?_
    refine XBlock.ret ?_
    refine XThen.ret ?_
    refine XThen.ret ?_
    refine XBlock.ret ?_
    refine XBlock.ret ?_
    refine XThen.ret ?_
    refine XThen.ret ?_
    refine XBlock.ret ?_
    refine XThen.ret ?_
    refine Br rfl ?_
    have:ybh p=false:=by rw [hone,List.all_eq_false]; exact ⟨row,hrm,by simp only[Bool.not_eq_true,List.all_eq_false]; exact ⟨c,hcm,by simpa using hne⟩⟩
    rw [this]
    rfl
   try simp only[RL]at h2
   have heq:c=c0:=by simpa [ydh] using h2
   refine W.skip ?_
   refine XbN ?_
   refine xn ?_
   refine W.k fun K hK=>?_
   simp(disch:=omega)only[↓RU,RV,RH,↓reduceIte,qE,reduceCtorEq,if_pos,w64,zaa]
   apply hK;clear hK K
   refine xn ?_
   refine ⟨row.length - (k+1),by omega,0,k+1,rfl,by omega,zmr hc hr2 (decide_eq_true heq),?_,rfl⟩
   simp [Env.put,Env.of]
  try simp only[RL]at h1
  have hrk:k=row.length:=by omega
  rw [hrk,List.take_length]at hr2
  refine W.exit ?_
  refine xe ?_
  refine xe ?_
  refine XBlock.hit ?_
  refine XbN ?_
  refine xn ?_
  refine W.k fun K hK=>?_
  simp(disch:=omega)only[↓RU,RV,RH,↓reduceIte,qE,reduceCtorEq,if_pos,w64,zaa]
  apply hK;clear hK K
  refine xn ?_
  refine ⟨p.length - (i+1),by omega,0,i+1,rfl,by omega,zmr hrow hall hr2,?_,rfl⟩
  simp [Env.put,Env.of]
 try simp only[RL]at h
 refine W.exit ?_
 refine xe ?_
 refine xe ?_
 refine XBlock.hit ?_
 refine xn ?_
 refine W.r fun K hK=>?_
 simp(disch:=omega)only[↓RU,RV,RH,↓reduceIte,qE,reduceCtorEq,if_pos]
 apply hK;clear hK K
 refine W.ret ?_
 refine Br rfl ?_
 have hip:i=p.length:=by omega
 rw [hip,List.take_length]at hall
 rw [hone,hall]
 rfl
theorem zm1 {p:List Txt} (hs:Sm p) (hg:zc7 p=true):PC Tryz.prog 81 [zbc p] (.tup [.int .i64 (ybg p).1,.int .i64 (ybg p).2]) true:=by
 have hp:=hs.rows
 have hsm:=zb3 hg
 obtain ⟨row0,hrow0,hrm0⟩:=zah hsm.1
 have hhd:=zc2 hrow0
 have hw6:=hsm.2.2 row0 hrm0
 have hw1:=zfe hg hrow0
 obtain ⟨c0,hc0,-⟩:=zah (show 0<row0.length by omega)
 have hgt:=z6j hg
 have hst:=Sm.grid hgt
 have hsmt:=zb3 hgt
 have htl:=zi5 (p:=p)
 have hth:=znz (p:=p) (by rw [hhd]; omega)
 have hul:(uprights p).length≤100:=by have h1:=zn4 p (za1 p).length; have h2:(p.length+1)*(za1 p).length≤7*6:=Nat.mul_le_mul (by omega) (by rw [hhd]; omega); unfold uprights; omega
 have hvl:(uprights (zdi p)).length≤100:=by have h1:=zn4 (zdi p) (za1 (zdi p)).length; have h2:((zdi p).length+1)*(za1 (zdi p)).length≤7*6:=Nat.mul_le_mul (by omega) (by omega); unfold uprights; omega
 refine PC.of ⟨Tryz.func81,by kernel_rfl,rfl,by kernel_rfl⟩ zbl mixed (by show 1≤Tryz.f81.ntmps; decide) ?_
 refine W.r fun K hK=>?_
 simp(disch:=omega)only[↓RU,RV,RH,↓reduceIte,qE,reduceCtorEq,if_pos]
 apply hK;clear hK K
 refine W.r fun K hK=>?_
 simp(disch:=omega)only[↓RU,RV,RH,↓reduceIte,qE,reduceCtorEq,if_pos,qN]
 refine zaf.pc (zpd hs hg) rfl (.inr rfl) ?_
 simp(disch:=omega)only[↓RU,RV,RH,↓reduceIte,qE,reduceCtorEq,if_pos,qN]
 apply hK;clear hK K
 refine W.seq ?_
 refine W.r fun K hK=>?_
 simp(disch:=omega)only[↓RU,RV,RH,↓reduceIte,qE,reduceCtorEq,if_pos]
 apply hK;clear hK K
 refine W.block ?_
 refine W.loop [0,4,5] (fun n vs S=>∃ i:Nat,n=(uprights p).length - i∧i≤(uprights p).length∧(((uprights p).take i).find? (zf1 p.length)=none)∧vs=[zbc p,.sl ((uprights p).map eInts) (uprights p).length,.int .i64 i]∧S=⟨[],0⟩) ((uprights p).length) ?_ ?_
 ·refine ⟨0,0,rfl,Nat.zero_le _,rfl,?_,rfl⟩
  simp [Env.put,Env.of,zad]
 rintro n vs S - ⟨i,rfl,h_i,hno,rfl,rfl⟩
 refine W.seq ?_
 refine W.r fun K hK=>?_
 simp(disch:=omega)only[↓RU,RV,RH,↓reduceIte,qE,reduceCtorEq,if_pos,w64,ty1,zab,zaa]
 apply hK;clear hK K
 refine W.cond rfl (fun h=>?_) (fun h=>?_)
 ·try simp only[RL]at h
  obtain ⟨u,hu,hum⟩:=zah (show i<(uprights p).length by omega)
  obtain ⟨k,f,l,rfl,hk⟩:=ye3 hum
  refine W.skip ?_
  refine xn ?_
  refine W.seq ?_
  refine W.block ?_
  refine W.r fun K hK=>?_
  simp(disch:=omega)only[↓RU,RV,RH,↓reduceIte,qE,reduceCtorEq,if_pos,w64,ty1,zab,ty6,zaa,zag,hu]
  apply hK;clear hK K
  refine W.cond rfl (fun h1=>?_) (fun h1=>?_)
  ·try simp only[RL]at h1
   have hlong:zf1 p.length [(k:Int),(f:Int),(l:Int)]=true:=by simp [zf1,zdm]; omega
   refine W.seq_draw (by kernel_rfl) fun K hK=>?_
   simp(disch:=omega)only[↓RU,RV,RH,↓reduceIte,qE,reduceCtorEq,if_pos,ty1,zab,zaa,hu]
   apply hK;clear hK K
   refine W.ret ?_
   refine XBlock.ret ?_
   refine XThen.ret ?_
   refine XThen.ret ?_
   refine XBlock.ret ?_
   refine XThen.ret ?_
   refine Br rfl ?_
   rw [show ybg p=(0,(k:Int)) by unfold ybg; rw [zx1 hu hno hlong]; rfl]
   rfl
  try simp only[RL]at h1
  have hlong:zf1 p.length [(k:Int),(f:Int),(l:Int)]=false:=by simp [zf1,zdm]; omega
  refine W.skip ?_
  refine XbN ?_
  refine xn ?_
  refine W.k fun K hK=>?_
  simp(disch:=omega)only[↓RU,RV,RH,↓reduceIte,qE,reduceCtorEq,if_pos,w64,zaa]
  apply hK;clear hK K
  refine xn ?_
  refine ⟨(uprights p).length - (i+1),by omega,0,i+1,rfl,by omega,zpa hu hno hlong,?_,rfl⟩
  simp [Env.put,Env.of]
 try simp only[RL]at h
 have hip:i=(uprights p).length:=by omega
 rw [hip,List.take_length]at hno
 refine W.exit ?_
 refine xe ?_
 refine xe ?_
 refine XBlock.hit ?_
 refine xn ?_
 refine W.r fun K hK=>?_
 simp(disch:=omega)only[↓RU,RV,RH,↓reduceIte,qE,reduceCtorEq,if_pos,qN]
 refine zaf.pc (z5k hs hg) rfl (.inl rfl) ?_
 simp(disch:=omega)only[↓RU,RV,RH,↓reduceIte,qE,reduceCtorEq,if_pos,qN]
 refine zaf.pc (zpd hst hgt) rfl (.inr rfl) ?_
 simp(disch:=omega)only[↓RU,RV,RH,↓reduceIte,qE,reduceCtorEq,if_pos,qN]
 apply hK;clear hK K
 refine W.seq ?_
 refine W.r fun K hK=>?_
 simp(disch:=omega)only[↓RU,RV,RH,↓reduceIte,qE,reduceCtorEq,if_pos]
 apply hK;clear hK K
 refine W.block ?_
 refine W.loop [0,6,7] (fun n vs S=>∃ i:Nat,n=(uprights (zdi p)).length - i∧i≤(uprights (zdi p)).length∧(((uprights (zdi p)).take i).find? (zf1 (za1 p).length)=none)∧vs=[zbc p,.sl ((uprights (zdi p)).map eInts) (uprights (zdi p)).length,.int .i64 i]∧S=⟨[],0⟩) ((uprights (zdi p)).length) ?_ ?_
 ·refine ⟨0,0,rfl,Nat.zero_le _,rfl,?_,rfl⟩
  simp [Env.put,Env.of,zad]
 rintro n vs S - ⟨i,rfl,h_i,hno2,rfl,rfl⟩
 refine W.seq ?_
 refine W.r fun K hK=>?_
 simp(disch:=omega)only[↓RU,RV,RH,↓reduceIte,qE,reduceCtorEq,if_pos,w64,ty1,zab,zaa]
 apply hK;clear hK K
 refine W.cond rfl (fun h=>?_) (fun h=>?_)
 ·try simp only[RL]at h
  obtain ⟨u,hu,hum⟩:=zah (show i<(uprights (zdi p)).length by omega)
  obtain ⟨k,f,l,rfl,hk⟩:=ye3 hum
  refine W.skip ?_
  refine xn ?_
  refine W.seq ?_
  refine W.block ?_
  refine W.seq_draw (by kernel_rfl) fun K hK=>?_
  simp(disch:=omega)only[↓RU,RV,RH,↓reduceIte,qE,reduceCtorEq,if_pos,w64,ty1,zab,ty6,zaa,zag,hu,hrow0,Int.toNat_zero,Nat.zero_mul,qZ]
  apply hK;clear hK K
  refine W.cond rfl (fun h1=>?_) (fun h1=>?_)
  ·try simp only[RL]at h1
   have hlong:zf1 (za1 p).length [(k:Int),(f:Int),(l:Int)]=true:=by simp [zf1,zdm,hhd]; omega
   refine W.seq_draw (by kernel_rfl) fun K hK=>?_
   simp(disch:=omega)only[↓RU,RV,RH,↓reduceIte,qE,reduceCtorEq,if_pos,ty1,zab,zaa,hu]
   apply hK;clear hK K
   refine W.ret ?_
   refine XBlock.ret ?_
   refine XThen.ret ?_
   refine XThen.ret ?_
   refine XBlock.ret ?_
   refine XThen.ret ?_
   refine Br rfl ?_
   rw [show ybg p=(1,(k:Int)) by unfold ybg; rw [hno,zx1 hu hno2 hlong]; rfl]
   rfl
  try simp only[RL]at h1
  have hlong:zf1 (za1 p).length [(k:Int),(f:Int),(l:Int)]=false:=by simp [zf1,zdm,hhd]; omega
  refine W.skip ?_
  refine XbN ?_
  refine xn ?_
  refine W.k fun K hK=>?_
  simp(disch:=omega)only[↓RU,RV,RH,↓reduceIte,qE,reduceCtorEq,if_pos,w64,zaa]
  apply hK;clear hK K
  refine xn ?_
  refine ⟨(uprights (zdi p)).length - (i+1),by omega,0,i+1,rfl,by omega,zpa hu hno2 hlong,?_,rfl⟩
  simp [Env.put,Env.of]
 try simp only[RL]at h
 have hip:i=(uprights (zdi p)).length:=by omega
 rw [hip,List.take_length]at hno2
 refine W.exit ?_
 refine xe ?_
 refine xe ?_
 refine XBlock.hit ?_
 refine xn ?_
 refine W.r fun K hK=>?_
 simp(disch:=omega)only[↓RU,RV,RH,↓reduceIte,qE,reduceCtorEq,if_pos]
 apply hK;clear hK K
 refine W.ret ?_
 refine Br rfl ?_
 rw [show ybg p=(0,0) by unfold ybg; rw [hno,hno2]]
 rfl
theorem yf9 {p:List Txt} {i k:Nat} {row:Txt} (h:p[i]?=some row):zhi (p.take (i+1)) (false,k)=zhi (p.take i) (false,k)++[row.take k]:=by simp [zhi,tk h]
theorem yga {p:List Txt} {i k:Nat} {row:Txt} (h:p[i]?=some row):zhj (p.take (i+1)) (false,k)=zhj (p.take i) (false,k)++[row.drop k]:=by simp [zhj,tk h]
theorem z9k {p:List Txt} {i k:Nat} {row:Txt} (h:p[i]?=some row):zhi (p.take (i+1)) (true,k)=if i<k then zhi (p.take i) (true,k)++[row] else zhi (p.take i) (true,k):=by
 have hl:=(List.getElem?_eq_some_iff.1 h).1
 simp only[zhi,if_true,List.take_take]
 split
 ·rw [Nat.min_eq_right (by omega),Nat.min_eq_right (by omega),tk h]
 rw [Nat.min_eq_left (by omega),Nat.min_eq_left (by omega)]
theorem z9l {p:List Txt} {i k:Nat} {row:Txt} (h:p[i]?=some row):zhj (p.take (i+1)) (true,k)=if i<k then zhj (p.take i) (true,k) else zhj (p.take i) (true,k)++[row]:=by
 have hl:=(List.getElem?_eq_some_iff.1 h).1
 simp only[zhj,if_true]
 split
 ·rw [List.drop_of_length_le (by simp; omega),List.drop_of_length_le (by simp; omega)]
 rw [tk h,List.drop_append_of_le_length (by simp; omega)]
theorem z30 {p:List Txt} {q:Bool × Nat} (i:Nat):(zhi (p.take i) q).length≤i∧(zhj (p.take i) q).length≤i:=by
 obtain ⟨lv,k⟩:=q
 cases lv <;> simp [zhi,zhj] <;> omega
theorem zrn {p:List Txt} (hs:Sm p) (hg:zc7 p=true) {k:Nat} (hk:k≤(za1 p).length):PC Tryz.prog 82 [zbc p,.int .i64 0,.int .i64 k] (.tup [zbc (zhi p (false,k)),zbc (zhj p (false,k))]) true:=by
 have hp:=hs.rows
 have hsm:=zb3 hg
 obtain ⟨row0,hrow0,hrm0⟩:=zah hsm.1
 have hhd:=zc2 hrow0
 have hw6:=hsm.2.2 row0 hrm0
 have hw1:=zfe hg hrow0
 rw [hhd]at hk
 refine PC.of ⟨Tryz.func82,by kernel_rfl,rfl,by kernel_rfl⟩ zbl mixed (by show 3≤Tryz.f82.ntmps; decide) ?_
 refine W.r fun K hK=>?_
 simp(disch:=omega)only[↓RU,RV,RH,↓reduceIte,qE,reduceCtorEq,if_pos,↓RS,RG,qA,qM,qL]
 apply hK;clear hK K
 refine W.r fun K hK=>?_
 simp(disch:=omega)only[↓RU,RV,RH,↓reduceIte,qE,reduceCtorEq,if_pos,↓RS,RG,qA,qM,qL,ty6,zag]
 apply hK;clear hK K
 refine W.r fun K hK=>?_
 simp(disch:=omega)only[↓RU,RV,RH,↓reduceIte,qE,reduceCtorEq,if_pos,↓RS,RG,qA,qM,qL,ty6,zag]
 apply hK;clear hK K
 refine W.seq ?_
 refine W.r fun K hK=>?_
 simp(disch:=omega)only[↓RU,RV,RH,↓reduceIte,qE,reduceCtorEq,if_pos,↓RS,RG,qA,qM,qL]
 apply hK;clear hK K
 refine W.block ?_
 refine W.loop [0,1,2,8,9,10] (fun n vs S=>∃ i v0 v1 tk:Nat,n=p.length - i∧i≤p.length∧vs=[zbc p,.int .i64 0,.int .i64 k,.loc 0 v0 0 (zhi (p.take i) (false,k)).length,.loc 1 v1 0 (zhj (p.take i) (false,k)).length,.int .i64 i]∧S=⟨[.arr v0 9 1 ((zhi (p.take i) (false,k)).map .str),.arr v1 9 1 ((zhj (p.take i) (false,k)).map .str)],tk⟩) p.length ?_ ?_
 ·refine ⟨2,0,0,1,2,rfl,Nat.zero_le _,?_,?_⟩
  ·simp [Env.put,Env.of,zad,zhi,zhj]
  simp [zhi,zhj,Store.take]
 rintro n vs S - ⟨i,v0,v1,tk,rfl,h_i,rfl,rfl⟩
 refine W.seq ?_
 refine W.r fun K hK=>?_
 simp(disch:=omega)only[↓RU,RV,RH,↓reduceIte,qE,reduceCtorEq,if_pos,w64,↓RS,RG,qA,qM,qL,ty6,zaa,zag]
 apply hK;clear hK K
 refine W.cond rfl (fun h=>?_) (fun h=>?_)
 ·try simp only[RL]at h
  obtain ⟨row,hrow,hrm⟩:=zah (show i<p.length by omega)
  have hrl:=hsm.2.2 row hrm
  have hrw:=zdw hg hrow
  rw [hhd]at hrw
  have hpl:=z30 (p:=p) (q:=(false,k)) i
  generalize hA:zhi (p.take i) (false,k)=A at hpl
  generalize hB:zhj (p.take i) (false,k)=B at hpl
  refine W.skip ?_
  refine xn ?_
  refine W.seq ?_
  refine W.block ?_
  refine W.block ?_
  refine W.r fun K hK=>?_
  simp(disch:=omega)only[↓RU,RV,RH,↓reduceIte,qE,reduceCtorEq,if_pos,w64,↓RS,RG,qA,qM,qL,zaa]
  apply hK;clear hK K
  refine W.cond rfl (fun h1=>?_) (fun h1=>?_)
  ·try simp only[RL]at h1
   refine W.r fun K hK=>?_
   simp(disch:=omega)only[↓RU,RV,RH,↓reduceIte,qE,reduceCtorEq,if_pos,Option.map_none,↓RS,RG,qA,qM,qL,ty6,zag,hrow,List.drop_zero]
   apply hK;clear hK K
   refine W.k fun K hK=>?_
   simp(disch:=omega)only[↓RU,RV,RH,↓reduceIte,qE,reduceCtorEq,if_pos,Option.map_none,↓RS,RG,qA,qM,qL,ty6,zag,hrow,List.take_length]
   apply hK;clear hK K
   refine XbN ?_
   refine XbN ?_
   refine xn ?_
   refine W.k fun K hK=>?_
   simp(disch:=omega)only[↓RU,RV,RH,↓reduceIte,qE,reduceCtorEq,if_pos,w64,↓RS,RG,qA,qM,qL,zaa]
   apply hK;clear hK K
   refine xn ?_
   refine ⟨p.length - (i+1),by omega,2,i+1,(tk+1),(tk+3),(tk+4),rfl,by omega,?_,?_⟩
   all_goals rw [yf9 hrow,yga hrow,hA,hB]
   all_goals simp [Env.put,Env.of,zcm,hA,hB,Store.take]
  try simp only[RL]at h1
  exact absurd h1 (by simp)
 try simp only[RL]at h
 obtain rfl:i=p.length:=by omega
 rw [List.take_length]
 refine W.exit ?_
 refine xe ?_
 refine xe ?_
 refine XBlock.hit ?_
 refine xn ?_
 refine W.r fun K hK=>?_
 simp(disch:=omega)only[↓RU,RV,RH,↓reduceIte,qE,reduceCtorEq,if_pos,↓RS,RG,qA,qM,qL]
 apply hK;clear hK K
 refine W.ret ?_
 refine Br rfl ?_
 exact congrArg (Option.map PV.tup) (za0 (zcg (k:=8) rfl (by simp) (zif _)) (za0 (zcg (k:=8) rfl (by simp) (zif _)) rfl))
theorem zrm {p:List Txt} (hs:Sm p) (hg:zc7 p=true) {k:Nat} (hk:k≤p.length):PC Tryz.prog 82 [zbc p,.int .i64 1,.int .i64 k] (.tup [zbc (zhi p (true,k)),zbc (zhj p (true,k))]) true:=by
 have hp:=hs.rows
 have hsm:=zb3 hg
 obtain ⟨row0,hrow0,hrm0⟩:=zah hsm.1
 have hhd:=zc2 hrow0
 have hw6:=hsm.2.2 row0 hrm0
 have hw1:=zfe hg hrow0
 skip
 refine PC.of ⟨Tryz.func82,by kernel_rfl,rfl,by kernel_rfl⟩ zbl mixed (by show 3≤Tryz.f82.ntmps; decide) ?_
 refine W.r fun K hK=>?_
 simp(disch:=omega)only[↓RU,RV,RH,↓reduceIte,qE,reduceCtorEq,if_pos,↓RS,RG,qA,qM,qL]
 apply hK;clear hK K
 refine W.r fun K hK=>?_
 simp(disch:=omega)only[↓RU,RV,RH,↓reduceIte,qE,reduceCtorEq,if_pos,↓RS,RG,qA,qM,qL,ty6,zag]
 apply hK;clear hK K
 refine W.r fun K hK=>?_
 simp(disch:=omega)only[↓RU,RV,RH,↓reduceIte,qE,reduceCtorEq,if_pos,↓RS,RG,qA,qM,qL,ty6,zag]
 apply hK;clear hK K
 refine W.seq ?_
 refine W.r fun K hK=>?_
 simp(disch:=omega)only[↓RU,RV,RH,↓reduceIte,qE,reduceCtorEq,if_pos,↓RS,RG,qA,qM,qL]
 apply hK;clear hK K
 refine W.block ?_
 refine W.loop [0,1,2,8,9,10] (fun n vs S=>∃ i v0 v1 tk:Nat,n=p.length - i∧i≤p.length∧vs=[zbc p,.int .i64 1,.int .i64 k,.loc 0 v0 0 (zhi (p.take i) (true,k)).length,.loc 1 v1 0 (zhj (p.take i) (true,k)).length,.int .i64 i]∧S=⟨[.arr v0 9 1 ((zhi (p.take i) (true,k)).map .str),.arr v1 9 1 ((zhj (p.take i) (true,k)).map .str)],tk⟩) p.length ?_ ?_
 ·refine ⟨2,0,0,1,2,rfl,Nat.zero_le _,?_,?_⟩
  ·simp [Env.put,Env.of,zad,zhi,zhj]
  simp [zhi,zhj,Store.take]
 rintro n vs S - ⟨i,v0,v1,tk,rfl,h_i,rfl,rfl⟩
 refine W.seq ?_
 refine W.r fun K hK=>?_
 simp(disch:=omega)only[↓RU,RV,RH,↓reduceIte,qE,reduceCtorEq,if_pos,w64,↓RS,RG,qA,qM,qL,ty6,zaa,zag]
 apply hK;clear hK K
 refine W.cond rfl (fun h=>?_) (fun h=>?_)
 ·try simp only[RL]at h
  obtain ⟨row,hrow,hrm⟩:=zah (show i<p.length by omega)
  have hrl:=hsm.2.2 row hrm
  have hrw:=zdw hg hrow
  rw [hhd]at hrw
  have hpl:=z30 (p:=p) (q:=(true,k)) i
  generalize hA:zhi (p.take i) (true,k)=A at hpl
  generalize hB:zhj (p.take i) (true,k)=B at hpl
  refine W.skip ?_
  refine xn ?_
  refine W.seq ?_
  refine W.block ?_
  refine W.block ?_
  refine W.r fun K hK=>?_
  simp(disch:=omega)only[↓RU,RV,RH,↓reduceIte,qE,reduceCtorEq,if_pos,w64,↓RS,RG,qA,qM,qL,zaa]
  apply hK;clear hK K
  refine W.cond rfl (fun h1=>?_) (fun h1=>?_)
  ·try simp only[RL]at h1
   exact absurd h1 (by simp)
  ·try simp only[RL]at h1
   refine W.r fun K hK=>?_
   simp(disch:=omega)only[↓RU,RV,RH,↓reduceIte,qE,reduceCtorEq,if_pos,w64,↓RS,RG,qA,qM,qL,zaa]
   apply hK;clear hK K
   refine W.cond rfl (fun h2=>?_) (fun h2=>?_)
   ·try simp only[RL]at h2
    refine W.k fun K hK=>?_
    simp(disch:=omega)only[↓RU,RV,RH,↓reduceIte,qE,reduceCtorEq,if_pos,↓RS,RG,qA,qM,qL,ty6,zag,hrow]
    apply hK;clear hK K
    refine XbN ?_
    refine XbN ?_
    refine xn ?_
    refine W.k fun K hK=>?_
    simp(disch:=omega)only[↓RU,RV,RH,↓reduceIte,qE,reduceCtorEq,if_pos,w64,↓RS,RG,qA,qM,qL,zaa]
    apply hK;clear hK K
    refine xn ?_
    refine ⟨p.length - (i+1),by omega,2,i+1,(tk+1),v1,(tk+2),rfl,by omega,?_,?_⟩
    all_goals rw [z9k hrow,z9l hrow,if_pos (show i<k by omega),if_pos (show i<k by omega),hA,hB]
    all_goals simp [Env.put,Env.of,zcm,hA,hB,Store.take]
   ·try simp only[RL]at h2
    refine W.k fun K hK=>?_
    simp(disch:=omega)only[↓RU,RV,RH,↓reduceIte,qE,reduceCtorEq,if_pos,↓RS,RG,qA,qM,qL,ty6,zag,hrow]
    apply hK;clear hK K
    refine XbN ?_
    refine XbN ?_
    refine xn ?_
    refine W.k fun K hK=>?_
    simp(disch:=omega)only[↓RU,RV,RH,↓reduceIte,qE,reduceCtorEq,if_pos,w64,↓RS,RG,qA,qM,qL,zaa]
    apply hK;clear hK K
    refine xn ?_
    refine ⟨p.length - (i+1),by omega,2,i+1,v0,(tk+1),(tk+2),rfl,by omega,?_,?_⟩
    all_goals rw [z9k hrow,z9l hrow,if_neg (show ¬ i<k by omega),if_neg (show ¬ i<k by omega),hA,hB]
    all_goals simp [Env.put,Env.of,zcm,hA,hB,Store.take]
 try simp only[RL]at h
 obtain rfl:i=p.length:=by omega
 rw [List.take_length]
 refine W.exit ?_
 refine xe ?_
 refine xe ?_
 refine XBlock.hit ?_
 refine xn ?_
 refine W.r fun K hK=>?_
 simp(disch:=omega)only[↓RU,RV,RH,↓reduceIte,qE,reduceCtorEq,if_pos,↓RS,RG,qA,qM,qL]
 apply hK;clear hK K
 refine W.ret ?_
 refine Br rfl ?_
 exact congrArg (Option.map PV.tup) (za0 (zcg (k:=8) rfl (by simp) (zif _)) (za0 (zcg (k:=8) rfl (by simp) (zif _)) rfl))
section
def zc4 (z:Nat→Nat→Int) (t:Pt):Option CT:=tree z (t.h*t.w) t
section
variable {z:Nat→Nat→Int} {H W:Nat} {t:Pt}
theorem zko (h:t.In H W):t.h*t.w=(t.h*t.w - 1)+1:=by have:=Nat.mul_pos h.1 h.2.1; omega
theorem zgy (h:t.In H W) (h1:zw7 z t=true):zc4 z t=some (.leaf (z t.r t.c)):=by
 unfold zc4; rw [zko h,tree,if_pos h1]
theorem zhq (h:t.In H W) (h1:zw7 z t=false) (h2:zd4 z t=none):zc4 z t=none:=by
 unfold zc4; rw [zko h,tree,h1,h2]; rfl
theorem zd0 (h:t.In H W) (h1:zw7 z t=false) {q:Bool × Nat} (h2:zd4 z t=some q):zc4 z t=match zc4 z (t.one q),zc4 z (t.two q) with | some x,some y=>some (.node q.1 x y) | _,_=>none:=by
 obtain ⟨i1,i2,a1,a2⟩:=h.cut h2
 have:=zko h
 rw [show zc4 z t=tree z ((t.h*t.w - 1)+1) t by unfold zc4; rw [← this]]
 simp only[tree,h1,h2,qF,if_false]
 unfold zc4
 rw [zn0 (z:=z) _ i1 (qR _) (f:=t.h*t.w - 1) (g:=(t.one q).h*(t.one q).w) (by omega) (qR _),zn0 (z:=z) _ i2 (qR _) (f:=t.h*t.w - 1) (g:=(t.two q).h*(t.two q).w) (by omega) (qR _)]
 all_goals (cases tree z ((t.one q).h*(t.one q).w) (t.one q) <;> cases tree z ((t.two q).h*(t.two q).w) (t.two q) <;> rfl)
def z6s (z:Nat→Nat→Int):Nat→Pt→Txt × Bool
 | 0,_=>([],false)
 | f+1,t=>if zw7 z t then ([UInt8.ofNat (z t.r t.c+65).toNat],true) else
  match zd4 z t with
  | none=>([],false)
  | some q=>((if q.1 then [104] else [118])++(z6s z f (t.one q)).1++(z6s z f (t.two q)).1,(z6s z f (t.one q)).2 && (z6s z f (t.two q)).2)
theorem zqo:∀ (n:Nat) {t:Pt} {f g:Nat},t.In H W→t.h*t.w≤n→t.h*t.w≤f→t.h*t.w≤g→z6s z f t=z6s z g t
 | 0,t,f,g,hi,hn,_,_=>by have:=Nat.mul_pos hi.1 hi.2.1; omega
 | n+1,t,f,g,hi,hn,hf,hg=>by
  have:=Nat.mul_pos hi.1 hi.2.1
  obtain ⟨f,rfl⟩:∃ f',f=f'+1:=⟨f - 1,by omega⟩
  obtain ⟨g,rfl⟩:∃ g',g=g'+1:=⟨g - 1,by omega⟩
  simp only[z6s]
  split
  ·rfl
  cases hc:zd4 z t with
  | none=>rfl
  | some q =>
   obtain ⟨i1,i2,a1,a2⟩:=hi.cut hc
   simp only
   rw [zqo n i1 (f:=f) (g:=g) (by omega) (by omega) (by omega),zqo n i2 (f:=f) (g:=g) (by omega) (by omega) (by omega)]
def zsu (z:Nat→Nat→Int) (t:Pt):Txt × Bool:=z6s z (t.h*t.w) t
theorem z4r (h:t.In H W) (h1:zw7 z t=true):zsu z t=([UInt8.ofNat (z t.r t.c+65).toNat],true):=by
 unfold zsu; rw [zko h,z6s,if_pos h1]
theorem zz8 (h:t.In H W) (h1:zw7 z t=false) (h2:zd4 z t=none):zsu z t=([],false):=by
 unfold zsu; rw [zko h,z6s,h1,h2]; rfl
theorem zn1 (h:t.In H W) (h1:zw7 z t=false) {q:Bool × Nat} (h2:zd4 z t=some q) :
  zsu z t=((if q.1 then [104] else [118])++(zsu z (t.one q)).1++(zsu z (t.two q)).1,(zsu z (t.one q)).2 && (zsu z (t.two q)).2):=by
 obtain ⟨i1,i2,a1,a2⟩:=h.cut h2
 have:=zko h
 rw [show zsu z t=z6s z ((t.h*t.w - 1)+1) t by unfold zsu; rw [← this]]
 simp only[z6s,h1,h2,qF,if_false]
 unfold zsu
 rw [zqo (z:=z) _ i1 (qR _) (f:=t.h*t.w - 1) (g:=(t.one q).h*(t.one q).w) (by omega) (qR _),zqo (z:=z) _ i2 (qR _) (f:=t.h*t.w - 1) (g:=(t.two q).h*(t.two q).w) (by omega) (qR _)]
theorem z2b {q:Bool × Nat} (h2:zd4 z t=some q):(t.one q).h*(t.one q).w+(t.two q).h*(t.two q).w=t.h*t.w:=by
 obtain ⟨h1,h3⟩:=zew h2
 obtain ⟨lv,k⟩:=q
 cases lv with
 | true =>
  simp only[if_true]at h3
  simp only[Pt.one,Pt.two,if_true]
  rw [← Nat.add_mul,show k+(t.h - k)=t.h by omega]
 | false =>
  simp only[qF,if_false]at h3
  simp only[Pt.one,Pt.two,qF,if_false]
  rw [← Nat.mul_add,show k+(t.w - k)=t.w by omega]
theorem zh5:∀ (n:Nat) {t:Pt},t.In H W→t.h*t.w≤n→(zsu z t).1.length+1≤2*(t.h*t.w)∧(zsu z t).2=(zc4 z t).isSome
 | 0,t,hi,hn=>by have:=Nat.mul_pos hi.1 hi.2.1; omega
 | n+1,t,hi,hn=>by
  have:=Nat.mul_pos hi.1 hi.2.1
  cases h1:zw7 z t with
  | true=>rw [z4r hi h1,zgy hi h1]; simp; omega
  | false =>
   cases hc:zd4 z t with
   | none=>rw [zz8 hi h1 hc,zhq hi h1 hc]; simp; omega
   | some q =>
    obtain ⟨i1,i2,a1,a2⟩:=hi.cut hc
    have ha:=z2b hc
    obtain ⟨b1,b2⟩:=zh5 n i1 (by omega)
    obtain ⟨c1,c2⟩:=zh5 n i2 (by omega)
    have p1:=Nat.mul_pos i1.1 i1.2.1
    rw [zn1 hi h1 hc,zd0 hi h1 hc]
    constructor
    ·simp only[List.length_append]
     have:(if q.1 then [(104:UInt8)] else [118]).length=1:=by split <;> rfl
     omega
    rw [b2,c2]
    cases zc4 z (t.one q) <;> cases zc4 z (t.two q) <;> rfl
def CT.leaves:CT→List Int
 | .leaf a=>[a]
 | .node _ x y=>x.leaves++y.leaves
theorem CT.pos (x:CT):1≤x.leaves.length:=by
 induction x with
 | leaf a=>simp [CT.leaves]
 | node lv x y h1 h2=>simp [CT.leaves]; omega
theorem zdv (hz:ye6 z H W):∀ (n:Nat) {t:Pt} {x:CT},Whole z H W t→t.h*t.w≤n→zc4 z t=some x →
  x.leaves.Nodup∧(∀ v,v∈x.leaves↔∃ a c,t.r≤a∧a<t.r+t.h∧t.c≤c∧c<t.c+t.w∧z a c=v)∧x.leaves.length≤t.h*t.w
 | 0,t,x,hw,hn,_=>by have:=Nat.mul_pos hw.inn.1 hw.inn.2.1; omega
 | n+1,t,x,hw,hn,hx=>by
  have hi:=hw.inn
  have hpos:=Nat.mul_pos hi.1 hi.2.1
  cases h1:zw7 z t with
  | true =>
   rw [zgy hi h1]at hx
   cases hx
   have hall:=zp9.1 h1
   refine ⟨by simp [CT.leaves],fun v=>?_,by simp [CT.leaves]; omega⟩
   simp only[CT.leaves,List.mem_singleton]
   constructor
   ·rintro rfl; exact ⟨t.r,t.c,by omega,by have:=hi.1; omega,by omega,by have:=hi.2.1; omega,rfl⟩
   rintro ⟨a,c,e1,e2,e3,e4,rfl⟩
   have:=hall (a - t.r) (c - t.c) (by omega) (by omega)
   rwa [show t.r+(a - t.r)=a by omega,show t.c+(c - t.c)=c by omega]at this
  | false =>
   cases hc:zd4 z t with
   | none=>rw [zhq hi h1 hc]at hx; cases hx
   | some q =>
    obtain ⟨i1,i2,a1,a2⟩:=hi.cut hc
    obtain ⟨w1,w2⟩:=hw.cut hz hc
    have ha:=z2b hc
    rw [zd0 hi h1 hc]at hx
    cases hx1:zc4 z (t.one q) with
    | none=>rw [hx1]at hx; cases hx
    | some x1 =>
     cases hx2:zc4 z (t.two q) with
     | none=>rw [hx1,hx2]at hx; cases hx
     | some x2 =>
      rw [hx1,hx2]at hx
      cases hx
      obtain ⟨b1,b2,b3⟩:=zdv hz n w1 (by omega) hx1
      obtain ⟨c1,c2,c3⟩:=zdv hz n w2 (by omega) hx2
      obtain ⟨k1,k2⟩:=zew hc
      refine ⟨?_,fun v=>?_,by simp [CT.leaves]; omega⟩
      ·simp only[CT.leaves,List.nodup_append]
       refine ⟨b1,c1,fun v hv u hu e=>?_⟩
       subst e
       obtain ⟨a,c,e1,e2,e3,e4,e5⟩:=(b2 v).1 hv
       obtain ⟨a',c',f1,f2,f3,f4,f5⟩:=(c2 v).1 hu
       have hin1:=i1; have hin2:=i2
       unfold Pt.In at hin1 hin2
       have:=w1.all a c a' c' (by omega) (by omega) (by omega) (by omega) (e5.trans f5.symm) e1 e2 e3 e4
       obtain ⟨lv,k⟩:=q
       cases lv <;> simp only[Pt.one,Pt.two,qF,if_false,if_true] at * <;> omega
      simp only[CT.leaves,List.mem_append,b2,c2]
      obtain ⟨lv,k⟩:=q
      cases lv with
      | true =>
       simp only[Pt.one,Pt.two,if_true] at *
       constructor
       ·rintro (⟨a,c,e1,e2,e3,e4,e5⟩ | ⟨a,c,e1,e2,e3,e4,e5⟩)
        ·exact ⟨a,c,e1,by omega,e3,e4,e5⟩
        exact ⟨a,c,by omega,by omega,e3,e4,e5⟩
       rintro ⟨a,c,e1,e2,e3,e4,e5⟩
       rcases Nat.lt_or_ge a (t.r+k) with h | h
       ·exact .inl ⟨a,c,e1,h,e3,e4,e5⟩
       exact .inr ⟨a,c,h,by omega,e3,e4,e5⟩
      | false =>
       simp only[Pt.one,Pt.two,qF,if_false] at *
       constructor
       ·rintro (⟨a,c,e1,e2,e3,e4,e5⟩ | ⟨a,c,e1,e2,e3,e4,e5⟩)
        ·exact ⟨a,c,e1,e2,e3,by omega,e5⟩
        exact ⟨a,c,e1,e2,by omega,by omega,e5⟩
       rintro ⟨a,c,e1,e2,e3,e4,e5⟩
       rcases Nat.lt_or_ge c (t.c+k) with h | h
       ·exact .inl ⟨a,c,e1,e2,e3,h,e5⟩
       exact .inr ⟨a,c,e1,e2,h,by omega,e5⟩
end
theorem zp7:∀ {n:Nat} {l:List Int},l.Nodup→(∀ x∈l,0≤x∧x<n)→l.length≤n
 | 0,l,_,hb=>by
  cases l with
  | nil=>simp
  | cons a l=>have:=hb a (by simp); omega
 | n+1,l,h,hb=>by
  by_cases hm:(n:Int)∈l
  ·obtain ⟨l1,l2,rfl⟩:=List.append_of_mem hm
   have hnd:=List.nodup_append.1 h
   have:=zp7 (n:=n) (l:=l1++l2) (h.sublist (by simp)) fun x hx=>by
    have h1:=hb x (by rcases List.mem_append.1 hx with h9 | h9 <;> simp [h9])
    have h2:x≠n:=by
     rintro rfl
     rcases List.mem_append.1 hx with h9 | h9
     ·exact hnd.2.2 _ h9 _ (by simp) rfl
     exact (List.nodup_cons.1 hnd.2.1).1 h9
    omega
   simp at this ⊢; omega
  have:=zp7 (n:=n) h fun x hx=>by
   have h1:=hb x hx
   have h2:x≠n:=by rintro rfl; exact hm hx
   omega
  omega
def z0g (needs:List Int) (x:CT):Int:=x.fold (fun a=>zdm needs a.toNat) fun lv a b=>if lv then max a b else a+b
end
theorem zqm {c:UInt8} {b:List UInt8} (h:b.length+1≤9223372036854775807):zw8 .add [c] b=some (.str (c::b)):=if_pos (by simp; omega)
theorem zqn {c:UInt8} {b d:List UInt8} (h:b.length+1+d.length≤9223372036854775807):zw8 .add (c::b) d=some (.str (c::b++d)):=if_pos (by simp; omega)
theorem z8h {p:List Txt} (hg:zc7 p=true) {t:Pt} (hi:t.In p.length (za1 p).length) (ih:∀ t':Pt,t'.In p.length (za1 p).length→t'.h*t'.w<t.h*t.w→PC Tryz.prog 79 [zbc (sub p t')] (.tup [.str (zsu (zat p) t').1,.bool (zsu (zat p) t').2]) true):PC Tryz.prog 79 [zbc (sub p t)] (.tup [.str (zsu (zat p) t).1,.bool (zsu (zat p) t).2]) true:=by
 have hg2:=z4p hg hi
 have hs2:=Sm.grid hg2
 have hl2:=zmb hi
 have hh2:=zux hg hi
 have hib:=hi
 unfold Pt.In at hib
 obtain ⟨row0,hrow0,hq0,hl0,-⟩:=zkm hg hi (i:=0) hi.1
 obtain ⟨c0,hc0,hlet⟩:=zkv hg hrow0 (k:=t.c+0) (by omega)
 have hqc:=(zh4 (row:=row0) (t:=t) hib.2.1).trans hc0
 have hz0:zat p t.r t.c=(c0.toNat:Int) - 97:=zdd (by simpa using hrow0) (by simpa using hc0)
 simp only[zdj,qB,decide_eq_true_eq]at hlet
 have hcq:=z2m hg hi
 refine PC.of ⟨Tryz.func79,by kernel_rfl,rfl,by kernel_rfl⟩ zbl mixed (by show 1≤Tryz.f79.ntmps; decide) ?_
 refine W.r fun K hK=>?_
 simp(disch:=omega)only[↓RU,RV,RH,↓reduceIte,qE,reduceCtorEq,if_pos,↓RS,RG,qA,qM,qL,w8]
 apply hK;clear hK K
 refine W.seq ?_
 refine W.r fun K hK=>?_
 simp(disch:=omega)only[↓RU,RV,RH,↓reduceIte,qE,reduceCtorEq,if_pos,qN,↓RS,RG,qA,qM,qL,w8]
 refine zaf.pc (z29 hs2 hg2) rfl (.inl rfl) ?_
 simp(disch:=omega)only[↓RU,RV,RH,↓reduceIte,qE,reduceCtorEq,if_pos,qN,↓RS,RG,qA,qM,qL,w8]
 apply hK;clear hK K
 refine W.cond rfl (fun h0=>?_) (fun h0=>?_)
 ·skip
  have h0:ybh (sub p t)=true:=h0
  rw [zp8 hg hi]at h0
  refine W.r fun K hK=>?_
  simp(disch:=omega)only[↓RU,RV,RH,↓reduceIte,qE,reduceCtorEq,if_pos,w64,w64,↓RS,RG,qA,qM,qL,ty6,ty7,zag,zfz,w8,hq0,hqc,Int.toNat_zero,Nat.zero_mul,qZ]
  apply hK;clear hK K
  refine W.ret ?_
  refine XThen.ret ?_
  refine Br rfl ?_
  rw [z4r hi h0,hz0]
  rfl
 skip
 have h0:ybh (sub p t)=false:=h0
 rw [zp8 hg hi]at h0
 refine W.skip ?_
 refine xn ?_
 refine W.r fun K hK=>?_
 rcases hq:zd4 (zat p) t with _ | ⟨_ | _,k⟩
 ·skip
  rw [hq]at hcq
  simp only at hcq
  simp(disch:=omega)only[↓RU,RV,RH,↓reduceIte,qE,reduceCtorEq,if_pos,qN,↓RS,RG,qA,qM,qL,w8,hcq]
  refine zaf.pc (zm1 hs2 hg2) rfl (.inl rfl) ?_
  simp(disch:=omega)only[↓RU,RV,RH,↓reduceIte,qE,reduceCtorEq,if_pos,qN,↓RS,RG,qA,qM,qL,w8,hcq]
  apply hK;clear hK K
  refine W.seq ?_
  refine W.r fun K hK=>?_
  simp(disch:=omega)only[↓RU,RV,RH,↓reduceIte,qE,reduceCtorEq,if_pos,w64,↓RS,RG,qA,qM,qL,zaa,w8]
  apply hK;clear hK K
  refine W.cond rfl (fun h1=>?_) (fun h1=>?_)
  ·try simp only[RL]at h1
   refine W.r fun K hK=>?_
   simp(disch:=omega)only[↓RU,RV,RH,↓reduceIte,qE,reduceCtorEq,if_pos,↓RS,RG,qA,qM,qL,w8]
   apply hK;clear hK K
   refine W.ret ?_
   refine XThen.ret ?_
   refine Br rfl ?_
   rw [zz8 hi h0 hq]
   rfl
  try simp only[RL]at h1
  exact absurd h1 (by simp)
 ·skip
  rw [hq]at hcq
  simp only[qF,if_false]at hcq
  obtain ⟨i1,i2,a1,a2⟩:=hi.cut hq
  have hck:=zew hq
  simp only[qF,if_false]at hck
  simp(disch:=omega)only[↓RU,RV,RH,↓reduceIte,qE,reduceCtorEq,if_pos,qN,↓RS,RG,qA,qM,qL,w8,hcq]
  refine zaf.pc (zm1 hs2 hg2) rfl (.inl rfl) ?_
  simp(disch:=omega)only[↓RU,RV,RH,↓reduceIte,qE,reduceCtorEq,if_pos,qN,↓RS,RG,qA,qM,qL,w8,hcq]
  apply hK;clear hK K
  refine W.seq ?_
  refine W.r fun K hK=>?_
  simp(disch:=omega)only[↓RU,RV,RH,↓reduceIte,qE,reduceCtorEq,if_pos,w64,↓RS,RG,qA,qM,qL,zaa,w8]
  apply hK;clear hK K
  refine W.cond rfl (fun h1=>?_) (fun h1=>?_)
  ·try simp only[RL]at h1
   exact absurd h1 (by simp; omega)
  try simp only[RL]at h1
  refine W.skip ?_
  refine xn ?_
  refine W.r fun K hK=>?_
  have hP:=zrn hs2 hg2 (k:=k) (by rw [hh2]; omega)
  rw [zws (q:=(false,k)) (by simp; omega),zwt (q:=(false,k)) (by simp; omega)]at hP
  simp(disch:=omega)only[↓RU,RV,RH,↓reduceIte,qE,reduceCtorEq,if_pos,qN,↓RS,RG,qA,qM,qL,w8]
  refine zaf.pc (hP) rfl (.inl rfl) ?_
  simp(disch:=omega)only[↓RU,RV,RH,↓reduceIte,qE,reduceCtorEq,if_pos,qN,↓RS,RG,qA,qM,qL,w8]
  apply hK;clear hK K
  refine W.r fun K hK=>?_
  simp(disch:=omega)only[↓RU,RV,RH,↓reduceIte,qE,reduceCtorEq,if_pos,qN,↓RS,RG,qA,qM,qL,w8]
  refine zaf.pc (ih (t.one (false,k)) i1 a1) rfl (.inl rfl) ?_
  simp(disch:=omega)only[↓RU,RV,RH,↓reduceIte,qE,reduceCtorEq,if_pos,qN,↓RS,RG,qA,qM,qL,w8]
  apply hK;clear hK K
  refine W.r fun K hK=>?_
  simp(disch:=omega)only[↓RU,RV,RH,↓reduceIte,qE,reduceCtorEq,if_pos,qN,↓RS,RG,qA,qM,qL,w8]
  refine zaf.pc (ih (t.two (false,k)) i2 a2) rfl (.inl rfl) ?_
  simp(disch:=omega)only[↓RU,RV,RH,↓reduceIte,qE,reduceCtorEq,if_pos,qN,↓RS,RG,qA,qM,qL,w8]
  apply hK;clear hK K
  refine W.r fun K hK=>?_
  have f1:=(zh5 (z:=zat p) _ i1 (qR _)).1
  have f2:=(zh5 (z:=zat p) _ i2 (qR _)).1
  have f3:t.h*t.w≤6*6:=Nat.mul_le_mul (by have:=zb3 hg; omega) (by have:=(zb3 hg2).2.2 _ (List.mem_of_getElem? hq0); omega)
  cases hb:(zsu (zat p) (t.one (false,k))).2
  ·skip
   simp(disch:=omega)only[↓RU,RV,RH,↓reduceIte,qE,reduceCtorEq,if_pos,w64,Option.map_none,↓RS,RG,qA,qM,qL,zaa,zag,w8,zqm,zqn,Int.reduceAdd,qZ,List.take_succ_cons,List.take_zero,List.drop_zero,List.drop_succ_cons,List.length_append,List.length_cons,List.length_nil,hb]
   apply hK;clear hK K
   refine W.ret ?_
   refine Br rfl ?_
   rw [zn1 hi h0 hq,hb]
   rfl
  skip
  simp(disch:=omega)only[↓RU,RV,RH,↓reduceIte,qE,reduceCtorEq,if_pos,w64,Option.map_none,↓RS,RG,qA,qM,qL,zaa,zag,w8,zqm,zqn,Int.reduceAdd,qZ,List.take_succ_cons,List.take_zero,List.drop_zero,List.drop_succ_cons,List.length_append,List.length_cons,List.length_nil,hb]
  apply hK;clear hK K
  refine W.ret ?_
  refine Br rfl ?_
  rw [zn1 hi h0 hq,hb]
  rfl
 skip
 rw [hq]at hcq
 simp only[if_true]at hcq
 obtain ⟨i1,i2,a1,a2⟩:=hi.cut hq
 have hck:=zew hq
 simp only[if_true]at hck
 simp(disch:=omega)only[↓RU,RV,RH,↓reduceIte,qE,reduceCtorEq,if_pos,qN,↓RS,RG,qA,qM,qL,w8,hcq]
 refine zaf.pc (zm1 hs2 hg2) rfl (.inl rfl) ?_
 simp(disch:=omega)only[↓RU,RV,RH,↓reduceIte,qE,reduceCtorEq,if_pos,qN,↓RS,RG,qA,qM,qL,w8,hcq]
 apply hK;clear hK K
 refine W.seq ?_
 refine W.r fun K hK=>?_
 simp(disch:=omega)only[↓RU,RV,RH,↓reduceIte,qE,reduceCtorEq,if_pos,w64,↓RS,RG,qA,qM,qL,zaa,w8]
 apply hK;clear hK K
 refine W.cond rfl (fun h1=>?_) (fun h1=>?_)
 ·try simp only[RL]at h1
  exact absurd h1 (by simp; omega)
 try simp only[RL]at h1
 refine W.skip ?_
 refine xn ?_
 refine W.r fun K hK=>?_
 have hP:=zrm hs2 hg2 (k:=k) (by rw [hl2]; omega)
 rw [zws (q:=(true,k)) (by simp; omega),zwt (q:=(true,k)) (by simp; omega)]at hP
 simp(disch:=omega)only[↓RU,RV,RH,↓reduceIte,qE,reduceCtorEq,if_pos,qN,↓RS,RG,qA,qM,qL,w8]
 refine zaf.pc (hP) rfl (.inl rfl) ?_
 simp(disch:=omega)only[↓RU,RV,RH,↓reduceIte,qE,reduceCtorEq,if_pos,qN,↓RS,RG,qA,qM,qL,w8]
 apply hK;clear hK K
 refine W.r fun K hK=>?_
 simp(disch:=omega)only[↓RU,RV,RH,↓reduceIte,qE,reduceCtorEq,if_pos,qN,↓RS,RG,qA,qM,qL,w8]
 refine zaf.pc (ih (t.one (true,k)) i1 a1) rfl (.inl rfl) ?_
 simp(disch:=omega)only[↓RU,RV,RH,↓reduceIte,qE,reduceCtorEq,if_pos,qN,↓RS,RG,qA,qM,qL,w8]
 apply hK;clear hK K
 refine W.r fun K hK=>?_
 simp(disch:=omega)only[↓RU,RV,RH,↓reduceIte,qE,reduceCtorEq,if_pos,qN,↓RS,RG,qA,qM,qL,w8]
 refine zaf.pc (ih (t.two (true,k)) i2 a2) rfl (.inl rfl) ?_
 simp(disch:=omega)only[↓RU,RV,RH,↓reduceIte,qE,reduceCtorEq,if_pos,qN,↓RS,RG,qA,qM,qL,w8]
 apply hK;clear hK K
 refine W.r fun K hK=>?_
 have f1:=(zh5 (z:=zat p) _ i1 (qR _)).1
 have f2:=(zh5 (z:=zat p) _ i2 (qR _)).1
 have f3:t.h*t.w≤6*6:=Nat.mul_le_mul (by have:=zb3 hg; omega) (by have:=(zb3 hg2).2.2 _ (List.mem_of_getElem? hq0); omega)
 cases hb:(zsu (zat p) (t.one (true,k))).2
 ·skip
  simp(disch:=omega)only[↓RU,RV,RH,↓reduceIte,qE,reduceCtorEq,if_pos,w64,Option.map_none,↓RS,RG,qA,qM,qL,zaa,zag,w8,zqm,zqn,Int.reduceAdd,qZ,List.take_succ_cons,List.take_zero,List.drop_zero,List.drop_succ_cons,List.length_append,List.length_cons,List.length_nil,hb]
  apply hK;clear hK K
  refine W.ret ?_
  refine Br rfl ?_
  rw [zn1 hi h0 hq,hb]
  rfl
 skip
 simp(disch:=omega)only[↓RU,RV,RH,↓reduceIte,qE,reduceCtorEq,if_pos,w64,Option.map_none,↓RS,RG,qA,qM,qL,zaa,zag,w8,zqm,zqn,Int.reduceAdd,qZ,List.take_succ_cons,List.take_zero,List.drop_zero,List.drop_succ_cons,List.length_append,List.length_cons,List.length_nil,hb]
 apply hK;clear hK K
 refine W.ret ?_
 refine Br rfl ?_
 rw [zn1 hi h0 hq,hb]
 rfl
theorem zyc {p:List Txt} (hg:zc7 p=true):∀ (n:Nat) {t:Pt},t.h*t.w≤n→t.In p.length (za1 p).length→PC Tryz.prog 79 [zbc (sub p t)] (.tup [.str (zsu (zat p) t).1,.bool (zsu (zat p) t).2]) true
 | 0,t,hn,hi=>by have:=Nat.mul_pos hi.1 hi.2.1; omega
 | n+1,t,hn,hi=>z8h hg hi fun t' hi' ha=>zyc hg n (by omega) hi'
def zh6 (p:List Txt):Pt:=⟨0,0,p.length,(za1 p).length⟩
theorem yax {p:List Txt} (hg:zc7 p=true):sub p (zh6 p)=p:=by
 unfold sub zh6
 simp only[List.drop_zero,List.take_length]
 conv=>rhs; rw [← List.map_id p]
 refine List.map_congr_left fun row hrow=>?_
 simp only[zkl,List.drop_zero,id_eq]
 rw [qT (by rw [zm0 hg row hrow]; exact qR _)]
theorem ydz {p:List Txt} (hg:zc7 p=true):(zh6 p).In p.length (za1 p).length:=by
 have hsm:=zb3 hg
 obtain ⟨row0,h0,hm0⟩:=zah hsm.1
 have hw:=zfe hg h0
 rw [← zc2 h0]at hw
 exact ⟨hsm.1,hw,by simp [zh6],by simp [zh6]⟩
def yd5 (p:List Txt):Bool:=zcc p && (zc4 (zat p) (zh6 p)).isSome
theorem zzs {p:List Txt} (hs:Sm p):PC Tryz.prog 38 [zbc p] (.bool (yd5 p)) true:=by
 refine PC.of ⟨Tryz.func38,by kernel_rfl,rfl,by kernel_rfl⟩ zbl mixed (by show 1≤Tryz.f38.ntmps; decide) ?_
 refine W.r fun K hK=>?_
 simp(disch:=omega)only[↓RU,RV,RH,↓reduceIte,qE,reduceCtorEq,if_pos]
 apply hK;clear hK K
 refine W.seq ?_
 refine W.r fun K hK=>?_
 simp(disch:=omega)only[↓RU,RV,RH,↓reduceIte,qE,reduceCtorEq,if_pos,qN]
 refine zaf.pc (zgc hs) rfl (.inl rfl) ?_
 simp(disch:=omega)only[↓RU,RV,RH,↓reduceIte,qE,reduceCtorEq,if_pos,qN]
 apply hK;clear hK K
 refine W.cond rfl (fun h0=>?_) (fun h0=>?_)
 ·skip
  have h0:zcc p=false:=by simpa using h0
  refine W.r fun K hK=>?_
  simp(disch:=omega)only[↓RU,RV,RH,↓reduceIte,qE,reduceCtorEq,if_pos]
  apply hK;clear hK K
  refine W.ret ?_
  refine XThen.ret ?_
  refine Br rfl ?_
  rw [show yd5 p=false by simp [yd5,h0]]
  rfl
 skip
 have h0:zcc p=true:=by simpa using h0
 have hg:=zed h0
 have hT:=zyc hg _ (qR _) (ydz hg)
 rw [yax hg,(zh5 (z:=zat p) _ (ydz hg) (qR _)).2]at hT
 refine W.skip ?_
 refine xn ?_
 refine W.r fun K hK=>?_
 simp(disch:=omega)only[↓RU,RV,RH,↓reduceIte,qE,reduceCtorEq,if_pos,qN]
 refine zaf.pc (hT) rfl (.inl rfl) ?_
 simp(disch:=omega)only[↓RU,RV,RH,↓reduceIte,qE,reduceCtorEq,if_pos,qN]
 apply hK;clear hK K
 refine W.r fun K hK=>?_
 simp(disch:=omega)only[↓RU,RV,RH,↓reduceIte,qE,reduceCtorEq,if_pos]
 apply hK;clear hK K
 refine W.ret ?_
 refine Br rfl ?_
 rw [show yd5 p=(zc4 (zat p) (zh6 p)).isSome by simp [yd5,h0]]
 rfl
def zq9 {α:Type} (enc:α→PV) (zero:PV) (room:Int→α) (cut:Bool→α→α→α):Option CT→PV
 | some x => .tup [enc (x.fold room cut),.bool true]
 | none => .tup [zero,.bool false]
theorem z7q {α:Type} {enc:α→PV} {zero:PV} {room:Int→α} {cut:Bool→α→α→α} (o:Option CT):∃ v b,zq9 enc zero room cut o = .tup [v,.bool b]:=by
 cases o with
 | none=>exact ⟨_,_,rfl⟩
 | some x=>exact ⟨_,_,rfl⟩
theorem zov (a b:Option CT):a=none∨(∃ x,a=some x∧b=none)∨∃ x y,a=some x∧b=some y:=by
 cases a <;> cases b <;> simp
theorem zuo {p:List Txt} (hp:zcc p=true):(rP p).length≤9∧∀ b∈rP p,b.Fit:=by
 have hN:=zda hp
 have h1:=hN.rooms
 have h2:zce p≤9:=by unfold zcc at hp; simp only[qB,decide_eq_true_eq]at hp; exact hp.1.2
 have hsm:=zb3 hN.hg
 obtain ⟨row0,hr0,hm0⟩:=zah hsm.1
 have hh:=zc2 hr0
 have hw6:=hsm.2.2 row0 hm0
 have hw1:=zfe hN.hg hr0
 rw [← hh]at hw6 hw1
 have hok:=(zgv (g:=zb2 p) hw6 hw1 p.length hsm.2.1).1
 rw [← z9x]at hok
 exact ⟨by omega,hok.2⟩
theorem z3z {p:List Txt} (hp:zcc p=true) {t:Pt} (h:t.In p.length (za1 p).length):t.rect.Fit:=by
 have hg:=z1d hp
 obtain ⟨g1,g2,g3,g4⟩:=hg.2.2
 unfold Pt.In at h
 simp only[Rect.Fit,Pt.rect]
 omega
def pareto (l:List Shp):List Shp:=l.foldl (fun o s=>put o s.1 s.2) []
theorem zeo (l:List Shp):Best l (pareto l):=by
 have h:=zva (sh:=fun i=>l[i]?.getD (0,0)) l.length
 have e1:(List.range l.length).map (fun i=>l[i]?.getD (0,0))=l:=by
  apply List.ext_getElem?
  intro i
  by_cases hi:i<l.length
  ·simp [hi]
  simp [hi] <;> omega
 have e2:zs7 (fun i=>l[i]?.getD (0,0)) l.length=pareto l:=by
  unfold zs7 pareto
  conv=>rhs; rw [← e1]
  rw [List.foldl_map]
 rw [e1,e2]at h
 exact h
theorem zug {z l:List Shp} (hz:z.Pairwise LexLe) (hp:z.Perm l):bsF z=pareto l:=(z65 hz hp).uniq (zeo l)
theorem zy4 {l:List Shp} (h:l≠[]):pareto l≠[]:=by
 cases l with
 | nil=>exact absurd rfl h
 | cons a l =>
  obtain ⟨y,hy,_⟩:=(zeo (a::l)).dom a (by simp)
  intro e; rw [e]at hy; cases hy
def prods (lv:Bool) (x y:List Shp):List Shp:=x.flatMap fun a=>y.map fun b=>if lv then (max a.1 b.1,a.2+b.2) else (a.1+b.1,max a.2 b.2)
theorem zkd {lv:Bool} {y:List Shp}:∀ (x:List Shp),(prods lv x y).length=x.length*y.length
 | []=>by simp [prods]
 | a::x=>by
  have:=zkd (lv:=lv) (y:=y) x
  unfold prods at this ⊢
  rw [List.flatMap_cons,List.length_append,this,List.length_map,List.length_cons,Nat.add_mul]; omega
def zfs (lv:Bool) (a:Shp) (y:List Shp):List Shp:=y.map fun b=>if lv then (max a.1 b.1,a.2+b.2) else (a.1+b.1,max a.2 b.2)
theorem zoo {lv:Bool} {x y:List Shp} {i:Nat} {a:Shp} (h:x[i]?=some a):prods lv (x.take (i+1)) y=prods lv (x.take i) y++zfs lv a y:=by
 rw [tk h]; simp [prods,zfs]
theorem zon {lv:Bool} {y:List Shp} {a b:Shp} {k:Nat} (h:y[k]?=some b):zfs lv a (y.take (k+1))=zfs lv a (y.take k)++[if lv then (max a.1 b.1,a.2+b.2) else (a.1+b.1,max a.2 b.2)]:=by
 rw [tk h]; simp [zfs]
def ShB (B:Int) (l:List Shp):Prop:=∀ s∈l,(1≤s.1∧s.1≤B)∧1≤s.2∧s.2≤B
theorem ShB.mono {B C:Int} {l:List Shp} (h:ShB B l) (k:B≤C):ShB C l:=fun s hs=>by have:=h s hs; omega
theorem ShB.put {B:Int} {l:List Shp} (h:ShB B l):ShB B (pareto l):=fun s hs=>h s ((zeo l).sub s hs)
theorem ShB.prods {B C:Int} {x y:List Shp} (hx:ShB B x) (hy:ShB C y) (lv:Bool):ShB (B+C) (prods lv x y):=by
 intro s hs
 unfold Fw.prods at hs
 obtain ⟨a,ha,hs⟩:=List.mem_flatMap.1 hs
 obtain ⟨b,hb,rfl⟩:=List.mem_map.1 hs
 have h1:=hx a ha
 have h2:=hy b hb
 cases lv <;> simp <;> omega
theorem yau {B:Nat} {l:List Shp} (h:Stc l) (hb:ShB B l):l.length≤B+1:=by
 have h1:(l.map (·.1)).Nodup:=by
  rw [List.nodup_iff_pairwise_ne,List.pairwise_map]
  exact h.imp fun hh e=>by omega
 have:=zp7 (n:=B+1) h1 fun x hx=>by
  obtain ⟨s,hs,rfl⟩:=List.mem_map.1 hx
  have:=hb s hs; omega
 simpa using this
def ybi (ws ht:List Int) (a:Int):List Shp:=pareto [(zdm ws a.toNat,zdm ht a.toNat),(zdm ht a.toNat,zdm ws a.toNat)]
def yif (lv:Bool) (x y:List Shp):List Shp:=pareto (prods lv x y)
def ziq (ws ht:List Int) (x:CT):List Shp:=x.fold (ybi ws ht) yif
theorem zuu {ws ht:List Int} {x:CT} (h1:∀ a∈x.leaves,1≤zdm ws a.toNat∧zdm ws a.toNat≤9) (h2:∀ a∈x.leaves,1≤zdm ht a.toNat∧zdm ht a.toNat≤9) :
  ShB ((9*x.leaves.length:Nat):Int) (ziq ws ht x)∧Stc (ziq ws ht x)∧1≤(ziq ws ht x).length:=by
 induction x with
 | leaf a =>
  have k1:=h1 a (by simp [CT.leaves])
  have k2:=h2 a (by simp [CT.leaves])
  refine ⟨ShB.put fun s hs=>?_,(zeo _).st,List.length_pos_iff.2 (zy4 (by simp))⟩
  simp only[List.mem_cons,List.not_mem_nil,or_false]at hs
  simp only[CT.leaves,List.length_singleton]
  rcases hs with rfl | rfl <;> simp <;> omega
 | node lv x y i1 i2 =>
  obtain ⟨a1,a2,a3⟩:=i1 (fun a ha=>h1 a (by simp [CT.leaves,ha])) fun a ha=>h2 a (by simp [CT.leaves,ha])
  obtain ⟨b1,b2,b3⟩:=i2 (fun a ha=>h1 a (by simp [CT.leaves,ha])) fun a ha=>h2 a (by simp [CT.leaves,ha])
  have hl:=zkd (lv:=lv) (y:=ziq ws ht y) (ziq ws ht x)
  have hp:1*1≤(ziq ws ht x).length*(ziq ws ht y).length:=Nat.mul_le_mul a3 b3
  refine ⟨ShB.mono (ShB.put (a1.prods b1 lv)) (by simp only[CT.leaves,List.length_append]; omega),(zeo _).st,List.length_pos_iff.2 (zy4 fun e=>?_)⟩
  have:(prods lv (ziq ws ht x) (ziq ws ht y)).length=0:=by rw [show prods lv (ziq ws ht x) (ziq ws ht y)=[] from e]; rfl
  omega
section
theorem z3i {p:List Txt} {ws:List Int}:zhw p ws=zdp p [ws]:=(z09).symm
theorem zp3 {p:List Txt} {ws ht:List Int}:zpc p ws ht=zde p ws ht:=by
 unfold zpc
 rw [z3i,z3i]
 unfold zde
 cases h1:zdp p [ws] with
 | false =>
  have:zdp p [ws,ht]=false:=by
   unfold zdp at h1 ⊢
   simp only[List.all_cons,List.all_nil,Bool.and_true]at h1 ⊢
   cases ha:zf2 p <;> cases hb:zio p ws <;> simp_all
  rw [this]; simp
 | true =>
  cases h2:zdp p [ht] with
  | false =>
   have:zdp p [ws,ht]=false:=by
    unfold zdp at h2 ⊢
    simp only[List.all_cons,List.all_nil,Bool.and_true]at h2 ⊢
    cases ha:zf2 p <;> cases hb:zio p ht <;> simp_all
   rw [this]; simp
  | true =>
   have h3:=(zgq h1).2.1
   have:zdp p [ws,ht]=true:=by
    unfold zdp at h1 h2 ⊢
    simp only[List.all_cons,List.all_nil,Bool.and_true,qB]at h1 h2 ⊢
    exact ⟨h1.1,h1.2,h2.2⟩
   rw [this,h3]; simp
section
variable {p:List Txt} {ws ht:List Int}
end
end
theorem yci {p:List Txt} (hs:Sm p) {wss:List (List Int)} (hn:wss.length≤1000) (hw:∀ ws∈wss,ws.length≤1048576) {wv t:Nat}:Ev Tryz.prog 32 [zbc p,.loc 0 wv 0 wss.length] ⟨[.arr wv 24 1 (wss.map eInts)],t⟩ fun v S=>v = .tup [if (zdp p wss) then zax (gP p) (rP p) else .nilp,.bool (zdp p wss)]∧S=⟨[.arr wv 24 1 (wss.map eInts)],t⟩:=by
 obtain ⟨x,hx,hxy,hxr⟩:=zui hs
 refine Ev.of ⟨Tryz.func32,by kernel_rfl,rfl,by kernel_rfl⟩ zbl mixed (by show 2≤Tryz.f32.ntmps; decide) ?_
 refine W.r fun K hK=>?_
 simp(disch:=omega)only[↓RU,RV,RH,↓reduceIte,qE,reduceCtorEq,if_pos,↓RS,RG,qA,qM,qL]
 apply hK;clear hK K
 refine W.r fun K hK=>?_
 simp(disch:=omega)only[↓RU,RV,RH,↓reduceIte,qE,reduceCtorEq,if_pos,qN,↓RS,RG,qA,qM,qL]
 refine zaf.pc (hx) rfl (.inr rfl) ?_
 simp(disch:=omega)only[↓RU,RV,RH,↓reduceIte,qE,reduceCtorEq,if_pos,qN,↓RS,RG,qA,qM,qL]
 apply hK;clear hK K
 refine W.seq ?_
 refine W.r fun K hK=>?_
 simp(disch:=omega)only[↓RU,RV,RH,↓reduceIte,qE,reduceCtorEq,if_pos,↓RS,RG,qA,qM,qL]
 apply hK;clear hK K
 refine W.cond rfl (fun h=>?_) (fun h=>?_)
 ·try simp only[RL]at h
  refine W.r fun K hK=>?_
  simp(disch:=omega)only[↓RU,RV,RH,↓reduceIte,qE,reduceCtorEq,if_pos,↓RS,RG,qA,qM,qL]
  apply hK;clear hK K
  refine W.ret ?_
  refine XThen.ret ?_
  refine Br rfl ?_
  have hnv:zdp p wss=false:=by unfold zdp; rw [h]; rfl
  exact ⟨_,by rw [hnv]; rfl,za2⟩
 try simp only[RL]at h
 obtain rfl:=hxy h
 refine W.skip ?_
 refine xn ?_
 refine W.r fun K hK=>?_
 simp(disch:=omega)only[↓RU,RV,RH,↓reduceIte,qE,reduceCtorEq,if_pos,↓RS,RG,qA,qM,qL]
 apply hK;clear hK K
 refine W.seq ?_
 refine W.r fun K hK=>?_
 simp(disch:=omega)only[↓RU,RV,RH,↓reduceIte,qE,reduceCtorEq,if_pos,↓RS,RG,qA,qM,qL,ty1,zab,zaa,zvg,yfw]
 apply hK;clear hK K
 refine W.block ?_
 refine W.loop [6,8,18,19,20] (fun n vs S=>∃ i:Nat,n=wss.length - i∧i≤wss.length∧((wss.take i).all (zio p)=true)∧vs=[zax (gP p) (rP p),.fn 70 [],.loc 0 wv 0 wss.length,.int .i64 wss.length,.int .i64 i]∧S=⟨[.arr wv 24 1 (wss.map eInts)],t⟩) (wss.length) ?_ ?_
 ·refine ⟨1,0,rfl,Nat.zero_le _,rfl,?_,rfl⟩
  simp [Env.put,Env.of,zad]
 rintro n vs S - ⟨i,rfl,h_i,hall,rfl,rfl⟩
 refine W.r fun K hK=>?_
 simp(disch:=omega)only[↓RU,RV,RH,↓reduceIte,qE,reduceCtorEq,if_pos,w64,↓RS,RG,qA,qM,qL,zaa]
 apply hK;clear hK K
 refine W.seq ?_
 refine W.cond rfl (fun h1=>?_) (fun h1=>?_)
 ·try simp only[RL]at h1
  obtain ⟨ws,hws,hwm⟩:=zah (show i<wss.length by omega)
  have hwl:=hw ws hwm
  obtain ⟨hokp,-⟩:=zr5 h
  have hrp:(rP p).length≤1000:=by have:=zm6 hokp; omega
  refine W.skip ?_
  refine xn ?_
  refine W.seq ?_
  refine W.block ?_
  refine W.r fun K hK=>?_
  simp(disch:=omega)only[↓RU,RV,RH,↓reduceIte,qE,reduceCtorEq,if_pos,↓RS,RG,qA,qM,qL,ty1,zab,zaa,hws]
  apply hK;clear hK K
  refine W.r fun K hK=>?_
  by_cases hlen:ws.length=(rP p).length
  ·skip
   have hd:((ws.length:Int) != ((rP p).length:Int))=false:=by rw [hlen]; simp
   simp(disch:=omega)only[↓RU,RV,RH,↓reduceIte,qE,reduceCtorEq,if_pos,w64,qN,↓RS,RG,qA,qM,qL,ty1,ty3,zab,zej,zdc,zbt,zaa,zek,zbu,hd,zb4]
   refine zaf.pc (zle (l:=ws) (by omega) (g:=70) (cap:=[]) rfl rfl (test:=fun n => !zlb n) (fun n _=>zrr n)) rfl (.inl rfl) ?_
   simp(disch:=omega)only[↓RU,RV,RH,↓reduceIte,qE,reduceCtorEq,if_pos,w64,qN,↓RS,RG,qA,qM,qL,ty1,ty3,zab,zej,zdc,zbt,zaa,zek,zbu,hd,zb4]
   apply hK;clear hK K
   refine W.cond rfl (fun h2=>?_) (fun h2=>?_)
   ·try simp only[RL]at h2
    have hok:zio p ws=false:=by unfold zio; rw [List.all_eq_not_any_not,h2]; simp
    refine W.r fun K hK=>?_
    simp(disch:=omega)only[↓RU,RV,RH,↓reduceIte,qE,reduceCtorEq,if_pos,↓RS,RG,qA,qM,qL]
    apply hK;clear hK K
    refine W.ret ?_
    refine XBlock.ret ?_
    refine XThen.ret ?_
    refine XThen.ret ?_
    refine XBlock.ret ?_
    refine XThen.ret ?_
    refine Br rfl ?_
    have hnv:=zkx hwm hok
    exact ⟨_,by rw [hnv]; rfl,za2⟩
   try simp only[RL]at h2
   have hok:zio p ws=true:=by unfold zio; rw [decide_eq_true hlen,List.all_eq_not_any_not]; simpa using h2
   refine W.skip ?_
   refine XbN ?_
   refine xn ?_
   refine W.k fun K hK=>?_
   simp(disch:=omega)only[↓RU,RV,RH,↓reduceIte,qE,reduceCtorEq,if_pos,w64,↓RS,RG,qA,qM,qL,zaa]
   apply hK;clear hK K
   refine xn ?_
   refine ⟨wss.length - (i+1),by omega,1,i+1,rfl,by omega,zmr hws hall hok,?_,rfl⟩
   simp [Env.put,Env.of]
  skip
  have hd:((ws.length:Int) != ((rP p).length:Int))=true:=by simp; omega
  simp(disch:=omega)only[↓RU,RV,RH,↓reduceIte,qE,reduceCtorEq,if_pos,w64,qN,↓RS,RG,qA,qM,qL,ty1,ty3,zab,zej,zdc,zbt,zaa,zek,zbu,hd,zb4]
  apply hK;clear hK K
  refine W.cond rfl (fun h2=>?_) (fun h2=>?_)
  ·try simp only[RL]at h2
   have hok:zio p ws=false:=by unfold zio; rw [decide_eq_false hlen]; rfl
   refine W.r fun K hK=>?_
   simp(disch:=omega)only[↓RU,RV,RH,↓reduceIte,qE,reduceCtorEq,if_pos,↓RS,RG,qA,qM,qL]
   apply hK;clear hK K
   refine W.ret ?_
   refine XBlock.ret ?_
   refine XThen.ret ?_
   refine XThen.ret ?_
   refine XBlock.ret ?_
   refine XThen.ret ?_
   refine Br rfl ?_
   have hnv:=zkx hwm hok
   exact ⟨_,by rw [hnv]; rfl,za2⟩
  try simp only[RL]at h2
  exact absurd h2 (by simp)
 try simp only[RL]at h1
 obtain rfl:wss.length=i:=by omega
 rw [List.take_length]at hall
 refine W.exit ?_
 refine xe ?_
 refine xe ?_
 refine XBlock.hit ?_
 refine xn ?_
 refine W.r fun K hK=>?_
 simp(disch:=omega)only[↓RU,RV,RH,↓reduceIte,qE,reduceCtorEq,if_pos,↓RS,RG,qA,qM,qL]
 apply hK;clear hK K
 refine W.ret ?_
 refine Br rfl ?_
 have hnv:zdp p wss=true:=by rw [zdp,h,hall]; rfl
 exact ⟨_,by rw [hnv]; rfl,za2⟩
theorem zk7 {p:List Txt} (hs:Sm p) {ws ht:List Int} (hw:ws.length≤1048576) (hh:ht.length≤1048576):PC Tryz.prog 57 [zbc p,eInts ws,eInts ht] (.tup [if (zdp p [ws,ht]) then zax (gP p) (rP p) else .nilp,.bool (zde p ws ht)]) false:=by
 refine PC.of ⟨Tryz.func57,by kernel_rfl,rfl,by kernel_rfl⟩ zbl mixed (by show 3≤Tryz.f57.ntmps; decide) ?_
 refine W.r fun K hK=>?_
 simp(disch:=omega)only[↓RU,RV,RH,↓reduceIte,qE,reduceCtorEq,if_pos,↓RS,RG,qA,qM,qL]
 apply hK;clear hK K
 refine W.r fun K hK=>?_
 simp(disch:=omega)only[↓RU,RV,RH,↓reduceIte,qE,reduceCtorEq,if_pos,qN,↓RS,RG,qA,qM,qL,ty1,zab,zaa]
 refine zaf.ev (yci hs (wss:=[ws,ht]) (by simp) (by intro a ha; simp only[List.mem_cons,List.not_mem_nil,or_false]at ha; rcases ha with rfl | rfl <;> assumption)) ?_
 rintro _ _ ⟨rfl,rfl⟩
 simp(disch:=omega)only[↓RU,RV,RH,↓reduceIte,qE,reduceCtorEq,if_pos,qN,↓RS,RG,qA,qM,qL,ty1,zab,zaa]
 apply hK;clear hK K
 refine W.seq_draw (by kernel_rfl) fun K hK=>?_
 cases hv:(zdp p [ws,ht])
 ·skip
  simp(disch:=omega)only[↓RU,RV,RH,↓reduceIte,qE,reduceCtorEq,if_pos,w64,↓RS,RG,qA,qM,qL,ty1,ty3,zab,zej,zdc,zbt,zaa,zek,zbu,hv,qF]
  apply hK;clear hK K
  refine W.ret ?_
  refine Br rfl ?_
  rw [hv,show zde p ws ht=false by unfold zde; rw [hv]; rfl]
  rfl
 skip
 simp(disch:=omega)only[↓RU,RV,RH,↓reduceIte,qE,reduceCtorEq,if_pos,w64,↓RS,RG,qA,qM,qL,ty1,ty3,zab,zej,zdc,zbt,zaa,zek,zbu,hv,zb4]
 apply hK;clear hK K
 refine W.ret ?_
 refine Br rfl ?_
 rw [hv,show zde p ws ht=decide (((rP p).length:Int)≤8) by unfold zde; rw [hv]; simp; omega]
 rfl
theorem ybs {l:List Shp} (hl:l.length≤1048576) (h1:1≤l.length) {ver t:Nat}:Ev Tryz.prog 59 [.loc 0 ver 0 l.length] ⟨[.arr ver 87 2 (scs l)],t⟩ fun v S=>∃ (z:List Shp) (ver2 v2 t2:Nat),z.Perm l∧z.Pairwise LexLe∧v = .loc 1 v2 0 (bsF z).length∧S=⟨[.arr ver2 87 2 (scs z),.arr v2 87 2 (scs (bsF z))],t2⟩:=by
 refine Ev.of ⟨Tryz.func59,by kernel_rfl,rfl,by kernel_rfl⟩ zbl mixed (by show 1≤Tryz.f59.ntmps; decide) ?_
 refine W.r fun K hK=>?_
 simp(disch:=omega)only[↓RU,RV,RH,↓reduceIte,qE,reduceCtorEq,if_pos,↓RS,RG,qA,qM,qL]
 apply hK;clear hK K
 refine W.r fun K hK=>?_
 simp(disch:=omega)only[↓RU,RV,RH,↓reduceIte,qE,reduceCtorEq,if_pos,qN,↓RS,RG,qA,qM,qL]
 refine zaf.ev (zz0 (F:=[]) (R:=[]) (by omega)) ?_
 rintro _ _ ⟨rfl,z,hzp,hzs,rfl⟩
 have hzl:z.length=l.length:=hzp.length_eq
 simp(disch:=omega)only[↓RU,RV,RH,↓reduceIte,qE,reduceCtorEq,if_pos,qN,↓RS,RG,qA,qM,qL]
 apply hK;clear hK K
 refine W.r fun K hK=>?_
 simp(disch:=omega)only[↓RU,RV,RH,↓reduceIte,qE,reduceCtorEq,if_pos,↓RS,RG,qA,qM,qL]
 apply hK;clear hK K
 refine W.seq ?_
 refine W.r fun K hK=>?_
 simp(disch:=omega)only[↓RU,RV,RH,↓reduceIte,qE,reduceCtorEq,if_pos,↓RS,RG,qA,qM,qL,ty4,zfx,zaa,zfy]
 apply hK;clear hK K
 refine W.block ?_
 refine W.loopS [3,8,9,10] (fun n vs S=>∃ i ver v t:Nat,n=l.length - i∧i≤l.length∧vs=[slC 1 (bsF (z.take i)) v,.loc 0 ver 0 l.length,.int .i64 l.length,.int .i64 i]∧S=⟨.arr ver 87 2 (scs z)::tlC (bsF (z.take i)) v,t⟩) l.length ?_ ?_
 ·refine ⟨0,[0],[.nils,.loc 0 t 0 l.length,.int .i64 l.length,.int .i64 (0:Nat)],⟨[.arr t 87 2 (scs z)],t+1⟩,?_,?_,0,t,0,t+1,rfl,Nat.zero_le _,rfl,rfl⟩
  ·simp [-qU,Env.put,Env.of,zad,za3,zac,zae,zai,zak,za8,za9,zbz,za7,zaq,zba,zby,zb0,zas,zar,zal,za6,zbb,zbx,zao,zan,zaj,zap,za5,zc5,qS,qP,qC]
  simp [-qU,Env.put,Env.of,zad,za3,zac,zae,zai,zak,za8,za9,zbz,za7,zaq,zba,zby,zb0,zas,zar,zal,za6,zbb,zbx,zao,zan,zaj,zap,za5,zc5,qS,qP,qC,zgu]
 rintro n vs S - ⟨i,ver2,v,t2,rfl,h_i,rfl,rfl⟩
 refine W.r fun K hK=>?_
 simp(disch:=omega)only[↓RU,RV,RH,↓reduceIte,qE,reduceCtorEq,if_pos,w64,↓RS,RG,qA,qM,qL,zaa]
 apply hK;clear hK K
 refine W.seq ?_
 refine W.cond rfl (fun h=>?_) (fun h=>?_)
 ·try simp only[RL]at h
  obtain ⟨x,hx,-⟩:=zah (show i<z.length by omega)
  have hsu:=zpv hx
  have hol:=zvd (z:=z) (i:=i) (by omega)
  have hpx:((scs z).drop (i*2)).take 2=[.int .i64 x.1,.int .i64 x.2]:=zuq hx
  refine W.skip ?_
  refine xn ?_
  refine W.seq ?_
  refine W.block ?_
  refine W.r fun K hK=>?_
  by_cases hi0:i=0
  ·skip
   subst hi0
   have ho:bsF (z.take 0)=[]:=rfl
   rw [ho]at hsu
   simp only[ho,zma,zkn]
   have hpx:(scs z).take 2=[.int .i64 x.1,.int .i64 x.2]:=by simpa using hpx
   have hpq:=True.intro
   have ho0:=True.intro
   have ho1:=True.intro
   simp(disch:=omega)only[↓RU,RV,RH,↓reduceIte,qE,reduceCtorEq,if_pos,↓RS,RG,qA,qM,qL,ty4,zfx,zaa,zfy,hpx,zcw,hzl]
   apply hK;clear hK K
   refine W.seq_draw (by kernel_rfl) fun K hK=>?_
   simp(disch:=omega)only[↓RU,RV,RH,↓reduceIte,qE,reduceCtorEq,if_pos,w64,↓RS,RG,qA,qM,qL,ty4,zfx,zaa,zfy,hpq,ho0,zdb,zcw]
   apply hK;clear hK K
   refine W.cond rfl (fun h1=>?_) (fun h1=>?_)
   ·try simp only[RL]at h1
    refine W.k fun K hK=>?_
    simp(disch:=omega)only[↓RU,RV,RH,↓reduceIte,qE,reduceCtorEq,if_pos,↓RS,RG,qA,qM,qL,ty4,zfx,zaa,zfy,zcw,zlr]
    apply hK;clear hK K
    refine XbN ?_
    refine xn ?_
    refine W.k fun K hK=>?_
    simp(disch:=omega)only[↓RU,RV,RH,↓reduceIte,qE,reduceCtorEq,if_pos,w64,↓RS,RG,qA,qM,qL,zaa]
    apply hK;clear hK K
    refine xn ?_
    refine ⟨l.length - (0+1),by omega,1,[3],[.loc 1 (t2+3) 0 1,.loc 0 ver2 0 l.length,.int .i64 l.length,.int .i64 ((0+1:Nat):Int)],⟨[.arr ver2 87 2 (scs z),.arr (t2+3) 87 2 ([.int .i64 x.1,.int .i64 x.2])],t2+4⟩,?_,?_,1,ver2,t2+3,t2+4,rfl,by omega,by rw [hsu]; rfl,by rw [hsu]; rfl⟩
    ·simp [-qU,Env.put,Env.of,zad,za3,zac,zae,zai,zak,za8,za9,zbz,za7,zaq,zba,zby,zb0,zas,zar,zal,za6,zbb,zbx,zao,zan,zaj,zap,za5,zc5,qS,qP,qC]
    simp [-qU,Env.put,Env.of,zad,za3,zac,zae,zai,zak,za8,za9,zbz,za7,zaq,zba,zby,zb0,zas,zar,zal,za6,zbb,zbx,zao,zan,zaj,zap,za5,zc5,qS,qP,qC,zgu]
   try simp only[RL]at h1
   exact absurd h1 (by simp)
  skip
  have hne:=z2d hi0 (show i≤z.length by omega)
  generalize bsF (z.take i)=o at hsu hol hne ⊢
  simp only[ze0 hne,zer hne]
  obtain ⟨q,hq,hq2⟩:=z07 hne
  have hpq:=yai hq
  have ho1:1≤o.length:=List.length_pos_iff.2 hne
  have ho0:((o.length:Int) == 0)=false:=by simp; omega
  rw [zve hq2]at hsu
  simp(disch:=omega)only[↓RU,RV,RH,↓reduceIte,qE,reduceCtorEq,if_pos,↓RS,RG,qA,qM,qL,ty4,zfx,zaa,zfy,hpx,zcw,hzl]
  apply hK;clear hK K
  refine W.seq_draw (by kernel_rfl) fun K hK=>?_
  simp(disch:=omega)only[↓RU,RV,RH,↓reduceIte,qE,reduceCtorEq,if_pos,w64,↓RS,RG,qA,qM,qL,ty4,zfx,zaa,zfy,hpq,ho0,zdb,zcw]
  apply hK;clear hK K
  refine W.cond rfl (fun h1=>?_) (fun h1=>?_)
  ·try simp only[RL]at h1
   have h1:x.2<q.2:=by simpa using h1
   rw [if_pos h1]at hsu
   refine W.k fun K hK=>?_
   simp(disch:=omega)only[↓RU,RV,RH,↓reduceIte,qE,reduceCtorEq,if_pos,↓RS,RG,qA,qM,qL,ty4,zfx,zaa,zfy,zcw,zlr]
   apply hK;clear hK K
   refine XbN ?_
   refine xn ?_
   refine W.k fun K hK=>?_
   simp(disch:=omega)only[↓RU,RV,RH,↓reduceIte,qE,reduceCtorEq,if_pos,w64,↓RS,RG,qA,qM,qL,zaa]
   apply hK;clear hK K
   refine xn ?_
   refine ⟨l.length - (i+1),by omega,2,[],[.loc 1 (t2+2) 0 (o.length+1),.loc 0 ver2 0 l.length,.int .i64 l.length,.int .i64 ((i+1:Nat):Int)],⟨[.arr ver2 87 2 (scs z),.arr (t2+2) 87 2 (scs o++[.int .i64 x.1,.int .i64 x.2])],t2+4⟩,?_,?_,i+1,ver2,t2+2,t2+4,rfl,by omega,by rw [hsu,ze0 (by simp)]; simp,by rw [hsu,zer (by simp),znr]⟩
   ·simp [-qU,Env.put,Env.of,zad,za3,zac,zae,zai,zak,za8,za9,zbz,za7,zaq,zba,zby,zb0,zas,zar,zal,za6,zbb,zbx,zao,zan,zaj,zap,za5,zc5,qS,qP,qC]
   simp [-qU,Env.put,Env.of,zad,za3,zac,zae,zai,zak,za8,za9,zbz,za7,zaq,zba,zby,zb0,zas,zar,zal,za6,zbb,zbx,zao,zan,zaj,zap,za5,zc5,qS,qP,qC,zgu]
  try simp only[RL]at h1
  have h1:¬ x.2<q.2:=by simpa using h1
  rw [if_neg h1]at hsu
  refine W.skip ?_
  refine XbN ?_
  refine xn ?_
  refine W.k fun K hK=>?_
  simp(disch:=omega)only[↓RU,RV,RH,↓reduceIte,qE,reduceCtorEq,if_pos,w64,↓RS,RG,qA,qM,qL,zaa]
  apply hK;clear hK K
  refine xn ?_
  refine ⟨l.length - (i+1),by omega,2,[],[.loc 1 v 0 o.length,.loc 0 ver2 0 l.length,.int .i64 l.length,.int .i64 ((i+1:Nat):Int)],⟨[.arr ver2 87 2 (scs z),.arr v 87 2 (scs o)],t2+2⟩,?_,?_,i+1,ver2,v,t2+2,rfl,by omega,by rw [hsu,ze0 hne],by rw [hsu,zer hne]⟩
  ·simp [-qU,Env.put,Env.of,zad,za3,zac,zae,zai,zak,za8,za9,zbz,za7,zaq,zba,zby,zb0,zas,zar,zal,za6,zbb,zbx,zao,zan,zaj,zap,za5,zc5,qS,qP,qC]
  simp [-qU,Env.put,Env.of,zad,za3,zac,zae,zai,zak,za8,za9,zbz,za7,zaq,zba,zby,zb0,zas,zar,zal,za6,zbb,zbx,zao,zan,zaj,zap,za5,zc5,qS,qP,qC,zgu]
 try simp only[RL]at h
 obtain rfl:i=l.length:=by omega
 refine W.exit ?_
 refine xe ?_
 refine xe ?_
 refine XBlock.hit ?_
 refine xn ?_
 refine W.r fun K hK=>?_
 simp(disch:=omega)only[↓RU,RV,RH,↓reduceIte,qE,reduceCtorEq,if_pos,↓RS,RG,qA,qM,qL]
 apply hK;clear hK K
 refine W.ret ?_
 refine Br rfl ?_
 have hne:=z2d (z:=z) (show l.length≠0 by omega) (by omega)
 rw [qT (by omega)]at hne ⊢
 rw [ze0 hne,zer hne]
 exact ⟨2,z,_,_,_,hzp,hzs,rfl,rfl⟩
theorem zze {S:Store} {im:Bool} {f o v:Nat} {l:List Shp} (h:S.obs[o]?=some (.arr v 87 2 (scs l))):reify S im (f+2) (.loc o v 0 l.length)=some (zfn l) :=
 zcg (k:=f+1) h (zcw l) (zk2 (zwj l))
theorem znv {ws ht:List Int} {a:Int} {x y:Int} (ha:0≤a) (hx:ws[a.toNat]?=some x) (hy:ht[a.toNat]?=some y):PC Tryz.prog 58 [.int .i64 a,.ip [eInts ws] 0,.ip [eInts ht] 0] (zfn (pareto [(x,y),(y,x)])) true:=by
 have hl1:=zcq hx
 have hl2:=zcq hy
 refine PC.of ⟨Tryz.func58,by kernel_rfl,rfl,by kernel_rfl⟩ zbl mixed (by show 3≤Tryz.f58.ntmps; decide) ?_
 refine W.r fun K hK=>?_
 simp(disch:=omega)only[↓RU,RV,RH,↓reduceIte,qE,reduceCtorEq,if_pos,↓RS,RG,qA,qM,qL]
 apply hK;clear hK K
 refine W.seq_drawE (by kernel_rfl) fun K hK=>?_
 simp(disch:=omega)only[↓RU,RV,RH,↓reduceIte,qE,reduceCtorEq,if_pos,qN,↓RS,RG,qA,qM,qL,ty4,zab,zfx,zaa,zfy,hx,hy]
 rw [show [PV.int .i64 x,.int .i64 y,.int .i64 y,.int .i64 x]=scs [(x,y),(y,x)] from rfl]
 refine zaf.ev (ybs (l:=[(x,y),(y,x)]) (by simp) (by simp)) ?_
 rintro _ _ ⟨z,ver2,v2,t2,hzp,hzs,rfl,rfl⟩
 have hb:=zug hzs hzp
 simp(disch:=omega)only[↓RU,RV,RH,↓reduceIte,qE,reduceCtorEq,if_pos,qN,↓RS,RG,qA,qM,qL,ty4,zab,zfx,zaa,zfy,hx,hy]
 apply hK;clear hK K
 refine W.ret ?_
 refine Br rfl ?_
 rw [← hb]
 exact zze (f:=8) rfl
theorem ygk {b0 b1:Ob} {l:List Shp} {v t f:Nat}:rn ⟨b0::b1::tlC l v,t⟩ ((tlC l v).length+1+1) [] (f+1) (slC 2 l v)=some (slC 2 l v):=by
 cases l with
 | nil=>rfl
 | cons a l=>rfl
theorem znw {g:List (List Int)} {rs:List Rect} {lv:Bool} {ra rb:Rect} {x y:List Shp} (hbx:ShB 1000 x) (hby:ShB 1000 y) (hlx:x.length≤1000) (hly:y.length≤1000) (hx1:1≤x.length) (hy1:1≤y.length):PC Tryz.prog 61 [.agg (z1b g rs lv ra rb),zfn x,zfn y] (zfn (pareto (prods lv x y))) true:=by
 simp only[z1b,Rect.cells]
 have hxy:1*1≤x.length*y.length:=Nat.mul_le_mul hx1 hy1
 refine PC.of ⟨Tryz.func61,by kernel_rfl,rfl,by kernel_rfl⟩ zbl mixed (by show 3≤Tryz.f61.ntmps; decide) ?_
 refine W.r fun K hK=>?_
 simp(disch:=omega)only[↓RU,RV,RH,↓reduceIte,qE,reduceCtorEq,if_pos,↓RS,RG,qA,qM,qL,ty8,zau,zcs,zh7,zbt,zaa,zct,zh8,zbu]
 apply hK;clear hK K
 refine W.r fun K hK=>?_
 simp(disch:=omega)only[↓RU,RV,RH,↓reduceIte,qE,reduceCtorEq,if_pos,↓RS,RG,qA,qM,qL]
 apply hK;clear hK K
 refine W.seq ?_
 refine W.r fun K hK=>?_
 simp(disch:=omega)only[↓RU,RV,RH,↓reduceIte,qE,reduceCtorEq,if_pos,↓RS,RG,qA,qM,qL,ty4,zfx,zaa,zfy]
 apply hK;clear hK K
 refine W.block ?_
 refine W.loopS [3,2,13,14,15,7] (fun n vs S=>∃ i v t:Nat,n=x.length - i∧i≤x.length∧vs=[.ref 0 0 0,zfn y,zfn x,.int .i64 x.length,.int .i64 i,slC 1 (prods lv (x.take i) y) v]∧S=⟨.arr 0 60 11 [.bool lv,zax g rs,.int .i64 ra.row,.int .i64 ra.col,.int .i64 ra.high,.int .i64 ra.wide,zax g rs,.int .i64 rb.row,.int .i64 rb.col,.int .i64 rb.high,.int .i64 rb.wide]::tlC (prods lv (x.take i) y) v,t⟩) x.length ?_ ?_
 ·refine ⟨1,[],[.ref 0 0 0,zfn y,zfn x,.int .i64 x.length,.int .i64 (0:Nat),.nils],⟨.arr 0 60 11 [.bool lv,zax g rs,.int .i64 ra.row,.int .i64 ra.col,.int .i64 ra.high,.int .i64 ra.wide,zax g rs,.int .i64 rb.row,.int .i64 rb.col,.int .i64 rb.high,.int .i64 rb.wide]::[],2⟩,?_,?_,0,0,2,rfl,Nat.zero_le _,rfl,rfl⟩
  ·simp [-qU,Env.put,Env.of,zad,za3,zac,zae,zai,zak,za8,za9,zbz,za7,zaq,zba,zby,zb0,zas,zar,zal,za6,zbb,zbx,zao,zan,zaj,zap,za5,zc5,qS,qP,qC]
  simp [-qU,Env.put,Env.of,zad,za3,zac,zae,zai,zak,za8,za9,zbz,za7,zaq,zba,zby,zb0,zas,zar,zal,za6,zbb,zbx,zao,zan,zaj,zap,za5,zc5,qS,qP,qC]
 rintro n vs S - ⟨i,v,t,rfl,h_i,rfl,rfl⟩
 refine W.r fun K hK=>?_
 simp(disch:=omega)only[↓RU,RV,RH,↓reduceIte,qE,reduceCtorEq,if_pos,w64,↓RS,RG,qA,qM,qL,zaa]
 apply hK;clear hK K
 refine W.seq ?_
 refine W.cond rfl (fun h=>?_) (fun h=>?_)
 ·try simp only[RL]at h
  obtain ⟨a,hx,hxm⟩:=zah (show i<x.length by omega)
  have hpt:=zoo (lv:=lv) (y:=y) hx
  have hpx:((scs x).drop (i*2)).take 2=[.int .i64 a.1,.int .i64 a.2]:=zuq hx
  have hba:=hbx a hxm
  generalize hPi:prods lv (x.take i) y=Pi at hpt
  have hPl:Pi.length≤1000*1000:=by rw [← hPi,zkd]; exact Nat.mul_le_mul (by rw [List.length_take]; omega) hly
  refine W.skip ?_
  refine xn ?_
  refine W.seq ?_
  refine W.block ?_
  refine W.joinS [3,2,13,14,15,7,9] (fun vs S=>∃ va v t:Nat,vs=[.ref 0 0 0,zfn y,zfn x,.int .i64 x.length,.int .i64 i,slC 2 Pi v,.ref 1 va 0]∧S=⟨.arr 0 60 11 [.bool lv,zax g rs,.int .i64 ra.row,.int .i64 ra.col,.int .i64 ra.high,.int .i64 ra.wide,zax g rs,.int .i64 rb.row,.int .i64 rb.col,.int .i64 rb.high,.int .i64 rb.wide] :: .arr va 87 2 [.int .i64 a.1,.int .i64 a.2]::tlC Pi v,t⟩) ?_ ?_
  ·
   refine W.k fun K hK=>?_
   by_cases hne0:Pi=[]
   ·skip
    subst hne0
    rw [zma,zkn]
    simp(disch:=omega)only[↓RU,RV,RH,↓reduceIte,qE,reduceCtorEq,if_pos,↓RS,RG,qA,qM,qL,ty4,zfx,zaa,zfy,hpx,zcw]
    apply hK;clear hK K
    refine xn ?_
    refine ⟨1,[1],[.ref 0 0 0,zfn y,zfn x,.int .i64 x.length,.int .i64 i,.nils,.ref 1 (t+1) 0],⟨.arr 0 60 11 [.bool lv,zax g rs,.int .i64 ra.row,.int .i64 ra.col,.int .i64 ra.high,.int .i64 ra.wide,zax g rs,.int .i64 rb.row,.int .i64 rb.col,.int .i64 rb.high,.int .i64 rb.wide] :: .arr (t+1) 87 2 [.int .i64 a.1,.int .i64 a.2]::[],(t+2)⟩,?_,?_,t+1,0,t+2,rfl,rfl⟩
    ·simp [-qU,Env.put,Env.of,zad,za3,zac,zae,zai,zak,za8,za9,zbz,za7,zaq,zba,zby,zb0,zas,zar,zal,za6,zbb,zbx,zao,zan,zaj,zap,za5,zc5,qS,qP,qC]
    simp [-qU,Env.put,Env.of,zad,za3,zac,zae,zai,zak,za8,za9,zbz,za7,zaq,zba,zby,zb0,zas,zar,zal,za6,zbb,zbx,zao,zan,zaj,zap,za5,zc5,qS,qP,qC]
   ·skip
    rw [ze0 hne0,zer hne0]
    simp(disch:=omega)only[↓RU,RV,RH,↓reduceIte,qE,reduceCtorEq,if_pos,↓RS,RG,qA,qM,qL,ty4,zfx,zaa,zfy,hpx,zcw]
    apply hK;clear hK K
    refine xn ?_
    refine ⟨1,[2,1],[.ref 0 0 0,zfn y,zfn x,.int .i64 x.length,.int .i64 i,.loc 2 (t+1) 0 Pi.length,.ref 1 (t+1) 0],⟨.arr 0 60 11 [.bool lv,zax g rs,.int .i64 ra.row,.int .i64 ra.col,.int .i64 ra.high,.int .i64 ra.wide,zax g rs,.int .i64 rb.row,.int .i64 rb.col,.int .i64 rb.high,.int .i64 rb.wide] :: .arr (t+1) 87 2 [.int .i64 a.1,.int .i64 a.2]::[.arr (t+1) 87 2 (scs Pi)],(t+2)⟩,?_,?_,t+1,t+1,t+2,by rw [ze0 hne0],by rw [zer hne0]⟩
    ·simp [-qU,Env.put,Env.of,zad,za3,zac,zae,zai,zak,za8,za9,zbz,za7,zaq,zba,zby,zb0,zas,zar,zal,za6,zbb,zbx,zao,zan,zaj,zap,za5,zc5,qS,qP,qC]
     all_goals rfl
    simp [-qU,Env.put,Env.of,zad,za3,zac,zae,zai,zak,za8,za9,zbz,za7,zaq,zba,zby,zb0,zas,zar,zal,za6,zbb,zbx,zao,zan,zaj,zap,za5,zc5,qS,qP,qC,zgu]
  rintro vs S - ⟨va,v,t,rfl,rfl⟩
  refine W.r fun K hK=>?_
  simp(disch:=omega)only[↓RU,RV,RH,↓reduceIte,qE,reduceCtorEq,if_pos,↓RS,RG,qA,qM,qL,ty4,zfx,zaa,zfy]
  apply hK;clear hK K
  refine W.block ?_
  refine W.loopS [3,2,13,14,15,7,9,19,20,21] (fun n vs S=>∃ k v t:Nat,n=y.length - k∧k≤y.length∧vs=[.ref 0 0 0,zfn y,zfn x,.int .i64 x.length,.int .i64 i,slC 2 (Pi++zfs lv a (y.take k)) v,.ref 1 va 0,zfn y,.int .i64 y.length,.int .i64 k]∧S=⟨.arr 0 60 11 [.bool lv,zax g rs,.int .i64 ra.row,.int .i64 ra.col,.int .i64 ra.high,.int .i64 ra.wide,zax g rs,.int .i64 rb.row,.int .i64 rb.col,.int .i64 rb.high,.int .i64 rb.wide] :: .arr va 87 2 [.int .i64 a.1,.int .i64 a.2]::tlC (Pi++zfs lv a (y.take k)) v,t⟩) y.length ?_ ?_
  ·refine ⟨(.arr 0 60 11 [.bool lv,zax g rs,.int .i64 ra.row,.int .i64 ra.col,.int .i64 ra.high,.int .i64 ra.wide,zax g rs,.int .i64 rb.row,.int .i64 rb.col,.int .i64 rb.high,.int .i64 rb.wide] :: .arr va 87 2 [.int .i64 a.1,.int .i64 a.2]::tlC Pi v).length,[],[.ref 0 0 0,zfn y,zfn x,.int .i64 x.length,.int .i64 i,slC 2 Pi v,.ref 1 va 0,zfn y,.int .i64 y.length,.int .i64 (0:Nat)],⟨.arr 0 60 11 [.bool lv,zax g rs,.int .i64 ra.row,.int .i64 ra.col,.int .i64 ra.high,.int .i64 ra.wide,zax g rs,.int .i64 rb.row,.int .i64 rb.col,.int .i64 rb.high,.int .i64 rb.wide] :: .arr va 87 2 [.int .i64 a.1,.int .i64 a.2]::tlC Pi v,(t+1)⟩,?_,?_,0,v,t+1,rfl,Nat.zero_le _,by simp [zfs],by simp [zfs]⟩
   ·simp [-qU,Env.put,Env.of,zad,za3,zac,zae,zai,zak,za8,za9,zbz,za7,zaq,zba,zby,zb0,zas,zar,zal,za6,zbb,zbx,zao,zan,zaj,zap,za5,zc5,qS,qP,qC,ygk]
   by_cases hne0:Pi=[]
   ·subst hne0; rw [zkn]; simp [-qU,Env.put,Env.of,zad,za3,zac,zae,zai,zak,za8,za9,zbz,za7,zaq,zba,zby,zb0,zas,zar,zal,za6,zbb,zbx,zao,zan,zaj,zap,za5,zc5,qS,qP,qC]
   rw [zer hne0]; simp [-qU,Env.put,Env.of,zad,za3,zac,zae,zai,zak,za8,za9,zbz,za7,zaq,zba,zby,zb0,zas,zar,zal,za6,zbb,zbx,zao,zan,zaj,zap,za5,zc5,qS,qP,qC,zgu]
  rintro n vs S - ⟨k,v,t1,rfl,h_k,rfl,rfl⟩
  refine W.r fun K hK=>?_
  simp(disch:=omega)only[↓RU,RV,RH,↓reduceIte,qE,reduceCtorEq,if_pos,w64,↓RS,RG,qA,qM,qL,zaa]
  apply hK;clear hK K
  refine W.seq ?_
  refine W.cond rfl (fun h1=>?_) (fun h1=>?_)
  ·try simp only[RL]at h1
   obtain ⟨b,hy,hym⟩:=zah (show k<y.length by omega)
   have hrt:=zon (lv:=lv) (a:=a) hy
   have hpy:((scs y).drop (k*2)).take 2=[.int .i64 b.1,.int .i64 b.2]:=zuq hy
   have hbb:=hby b hym
   have hnx:(Pi++zfs lv a (y.take (k+1)))=(Pi++zfs lv a (y.take k))++[if lv then (max a.1 b.1,a.2+b.2) else (a.1+b.1,max a.2 b.2)]:=by rw [hrt,List.append_assoc]
   have hLl:(Pi++zfs lv a (y.take k)).length≤1000*1000+1000:=by simp [zfs]; omega
   generalize hLK:(Pi++zfs lv a (y.take k))=LL at hnx hLl
   refine W.skip ?_
   refine xn ?_
   refine W.seq ?_
   refine W.block ?_
   refine W.r fun K hK=>?_
   by_cases hne1:LL=[]
   ·skip
    subst hne1
    rw [zma,zkn]
    rw [List.nil_append]at hnx
    simp(disch:=omega)only[↓RU,RV,RH,↓reduceIte,qE,reduceCtorEq,if_pos,↓RS,RG,qA,qM,qL,ty4,zfx,zaa,zfy,hpy,zcw]
    apply hK;clear hK K
    refine W.r fun K hK=>?_
    simp(disch:=omega)only[↓RU,RV,RH,↓reduceIte,qE,reduceCtorEq,if_pos,w64,ze2,↓RS,RG,qA,qM,qL,zfx,zaa,zfy]
    apply hK;clear hK K
    refine W.seq ?_
    refine W.r fun K hK=>?_
    simp(disch:=omega)only[↓RU,RV,RH,↓reduceIte,qE,reduceCtorEq,if_pos,↓RS,RG,qA,qM,qL,ty8,zau,zcs,zh7,zbt,zaa,zct,zh8,zbu]
    apply hK;clear hK K
    refine W.cond rfl (fun h2=>?_) (fun h2=>?_)
    ·try simp only[RL]at h2
     refine W.k fun K hK=>?_
     simp(disch:=omega)only[↓RU,RV,RH,↓reduceIte,qE,reduceCtorEq,if_pos,ze2,w64,↓RS,RG,qA,qM,qL,zfx,zaa,zfy]
     apply hK;clear hK K
     refine xn ?_
     refine W.k fun K hK=>?_
     simp(disch:=omega)only[↓RU,RV,RH,↓reduceIte,qE,reduceCtorEq,if_pos,↓RS,RG,qA,qM,qL,ty4,zfx,zaa,zfy,zcw,zlr]
     apply hK;clear hK K
     refine XbN ?_
     refine xn ?_
     refine W.k fun K hK=>?_
     simp(disch:=omega)only[↓RU,RV,RH,↓reduceIte,qE,reduceCtorEq,if_pos,w64,↓RS,RG,qA,qM,qL,zaa]
     apply hK;clear hK K
     refine xn ?_
     rw [show (if lv then (max a.1 b.1,a.2+b.2) else (a.1+b.1,max a.2 b.2))=(max a.1 b.1,a.2+b.2) by simp [h2]]at hnx
     refine ⟨y.length - (k+1),by omega,2,[5],[.ref 0 0 0,zfn y,zfn x,.int .i64 x.length,.int .i64 i,.loc 2 (t1+4) 0 1,.ref 1 va 0,zfn y,.int .i64 y.length,.int .i64 ((k+1:Nat):Int)],⟨.arr 0 60 11 [.bool lv,zax g rs,.int .i64 ra.row,.int .i64 ra.col,.int .i64 ra.high,.int .i64 ra.wide,zax g rs,.int .i64 rb.row,.int .i64 rb.col,.int .i64 rb.high,.int .i64 rb.wide] :: .arr va 87 2 [.int .i64 a.1,.int .i64 a.2]::[.arr (t1+4) 87 2 [.int .i64 (max a.1 b.1),.int .i64 (a.2+b.2)]],(t1+5)⟩,?_,?_,k+1,t1+4,t1+5,rfl,by omega,by rw [hnx]; rfl,by rw [hnx]; rfl⟩
     ·simp [-qU,Env.put,Env.of,zad,za3,zac,zae,zai,zak,za8,za9,zbz,za7,zaq,zba,zby,zb0,zas,zar,zal,za6,zbb,zbx,zao,zan,zaj,zap,za5,zc5,qS,qP,qC]
     simp [-qU,Env.put,Env.of,zad,za3,zac,zae,zai,zak,za8,za9,zbz,za7,zaq,zba,zby,zb0,zas,zar,zal,za6,zbb,zbx,zao,zan,zaj,zap,za5,zc5,qS,qP,qC,zgu]
    try simp only[RL]at h2
    refine W.skip ?_
    refine xn ?_
    refine W.k fun K hK=>?_
    simp(disch:=omega)only[↓RU,RV,RH,↓reduceIte,qE,reduceCtorEq,if_pos,↓RS,RG,qA,qM,qL,ty4,zfx,zaa,zfy,zcw,zlr]
    apply hK;clear hK K
    refine XbN ?_
    refine xn ?_
    refine W.k fun K hK=>?_
    simp(disch:=omega)only[↓RU,RV,RH,↓reduceIte,qE,reduceCtorEq,if_pos,w64,↓RS,RG,qA,qM,qL,zaa]
    apply hK;clear hK K
    refine xn ?_
    rw [show (if lv then (max a.1 b.1,a.2+b.2) else (a.1+b.1,max a.2 b.2))=(a.1+b.1,max a.2 b.2) by simp [h2]]at hnx
    refine ⟨y.length - (k+1),by omega,2,[5],[.ref 0 0 0,zfn y,zfn x,.int .i64 x.length,.int .i64 i,.loc 2 (t1+4) 0 1,.ref 1 va 0,zfn y,.int .i64 y.length,.int .i64 ((k+1:Nat):Int)],⟨.arr 0 60 11 [.bool lv,zax g rs,.int .i64 ra.row,.int .i64 ra.col,.int .i64 ra.high,.int .i64 ra.wide,zax g rs,.int .i64 rb.row,.int .i64 rb.col,.int .i64 rb.high,.int .i64 rb.wide] :: .arr va 87 2 [.int .i64 a.1,.int .i64 a.2]::[.arr (t1+4) 87 2 [.int .i64 (a.1+b.1),.int .i64 (max a.2 b.2)]],(t1+5)⟩,?_,?_,k+1,t1+4,t1+5,rfl,by omega,by rw [hnx]; rfl,by rw [hnx]; rfl⟩
    ·simp [-qU,Env.put,Env.of,zad,za3,zac,zae,zai,zak,za8,za9,zbz,za7,zaq,zba,zby,zb0,zas,zar,zal,za6,zbb,zbx,zao,zan,zaj,zap,za5,zc5,qS,qP,qC]
    simp [-qU,Env.put,Env.of,zad,za3,zac,zae,zai,zak,za8,za9,zbz,za7,zaq,zba,zby,zb0,zas,zar,zal,za6,zbb,zbx,zao,zan,zaj,zap,za5,zc5,qS,qP,qC,zgu]
   skip
   rw [ze0 hne1,zer hne1]
   simp(disch:=omega)only[↓RU,RV,RH,↓reduceIte,qE,reduceCtorEq,if_pos,↓RS,RG,qA,qM,qL,ty4,zfx,zaa,zfy,hpy,zcw]
   apply hK;clear hK K
   refine W.r fun K hK=>?_
   simp(disch:=omega)only[↓RU,RV,RH,↓reduceIte,qE,reduceCtorEq,if_pos,w64,ze2,↓RS,RG,qA,qM,qL,zfx,zaa,zfy]
   apply hK;clear hK K
   refine W.seq ?_
   refine W.r fun K hK=>?_
   simp(disch:=omega)only[↓RU,RV,RH,↓reduceIte,qE,reduceCtorEq,if_pos,↓RS,RG,qA,qM,qL,ty8,zau,zcs,zh7,zbt,zaa,zct,zh8,zbu]
   apply hK;clear hK K
   refine W.cond rfl (fun h2=>?_) (fun h2=>?_)
   ·try simp only[RL]at h2
    refine W.k fun K hK=>?_
    simp(disch:=omega)only[↓RU,RV,RH,↓reduceIte,qE,reduceCtorEq,if_pos,ze2,w64,↓RS,RG,qA,qM,qL,zfx,zaa,zfy]
    apply hK;clear hK K
    refine xn ?_
    refine W.k fun K hK=>?_
    simp(disch:=omega)only[↓RU,RV,RH,↓reduceIte,qE,reduceCtorEq,if_pos,↓RS,RG,qA,qM,qL,ty4,zfx,zaa,zfy,zcw,zlr]
    apply hK;clear hK K
    refine XbN ?_
    refine xn ?_
    refine W.k fun K hK=>?_
    simp(disch:=omega)only[↓RU,RV,RH,↓reduceIte,qE,reduceCtorEq,if_pos,w64,↓RS,RG,qA,qM,qL,zaa]
    apply hK;clear hK K
    refine xn ?_
    rw [show (if lv then (max a.1 b.1,a.2+b.2) else (a.1+b.1,max a.2 b.2))=(max a.1 b.1,a.2+b.2) by simp [h2]]at hnx
    refine ⟨y.length - (k+1),by omega,3,[],[.ref 0 0 0,zfn y,zfn x,.int .i64 x.length,.int .i64 i,.loc 2 (t1+3) 0 (LL.length+1),.ref 1 va 0,zfn y,.int .i64 y.length,.int .i64 ((k+1:Nat):Int)],⟨.arr 0 60 11 [.bool lv,zax g rs,.int .i64 ra.row,.int .i64 ra.col,.int .i64 ra.high,.int .i64 ra.wide,zax g rs,.int .i64 rb.row,.int .i64 rb.col,.int .i64 rb.high,.int .i64 rb.wide] :: .arr va 87 2 [.int .i64 a.1,.int .i64 a.2]::[.arr (t1+3) 87 2 (scs LL++[.int .i64 (max a.1 b.1),.int .i64 (a.2+b.2)])],(t1+5)⟩,?_,?_,k+1,t1+3,t1+5,rfl,by omega,by rw [hnx,ze0 (by simp)]; simp,by rw [hnx,zer (by simp),znr]⟩
    ·simp [-qU,Env.put,Env.of,zad,za3,zac,zae,zai,zak,za8,za9,zbz,za7,zaq,zba,zby,zb0,zas,zar,zal,za6,zbb,zbx,zao,zan,zaj,zap,za5,zc5,qS,qP,qC]
    simp [-qU,Env.put,Env.of,zad,za3,zac,zae,zai,zak,za8,za9,zbz,za7,zaq,zba,zby,zb0,zas,zar,zal,za6,zbb,zbx,zao,zan,zaj,zap,za5,zc5,qS,qP,qC,zgu]
   try simp only[RL]at h2
   refine W.skip ?_
   refine xn ?_
   refine W.k fun K hK=>?_
   simp(disch:=omega)only[↓RU,RV,RH,↓reduceIte,qE,reduceCtorEq,if_pos,↓RS,RG,qA,qM,qL,ty4,zfx,zaa,zfy,zcw,zlr]
   apply hK;clear hK K
   refine XbN ?_
   refine xn ?_
   refine W.k fun K hK=>?_
   simp(disch:=omega)only[↓RU,RV,RH,↓reduceIte,qE,reduceCtorEq,if_pos,w64,↓RS,RG,qA,qM,qL,zaa]
   apply hK;clear hK K
   refine xn ?_
   rw [show (if lv then (max a.1 b.1,a.2+b.2) else (a.1+b.1,max a.2 b.2))=(a.1+b.1,max a.2 b.2) by simp [h2]]at hnx
   refine ⟨y.length - (k+1),by omega,3,[],[.ref 0 0 0,zfn y,zfn x,.int .i64 x.length,.int .i64 i,.loc 2 (t1+3) 0 (LL.length+1),.ref 1 va 0,zfn y,.int .i64 y.length,.int .i64 ((k+1:Nat):Int)],⟨.arr 0 60 11 [.bool lv,zax g rs,.int .i64 ra.row,.int .i64 ra.col,.int .i64 ra.high,.int .i64 ra.wide,zax g rs,.int .i64 rb.row,.int .i64 rb.col,.int .i64 rb.high,.int .i64 rb.wide] :: .arr va 87 2 [.int .i64 a.1,.int .i64 a.2]::[.arr (t1+3) 87 2 (scs LL++[.int .i64 (a.1+b.1),.int .i64 (max a.2 b.2)])],(t1+5)⟩,?_,?_,k+1,t1+3,t1+5,rfl,by omega,by rw [hnx,ze0 (by simp)]; simp,by rw [hnx,zer (by simp),znr]⟩
   ·simp [-qU,Env.put,Env.of,zad,za3,zac,zae,zai,zak,za8,za9,zbz,za7,zaq,zba,zby,zb0,zas,zar,zal,za6,zbb,zbx,zao,zan,zaj,zap,za5,zc5,qS,qP,qC]
   simp [-qU,Env.put,Env.of,zad,za3,zac,zae,zai,zak,za8,za9,zbz,za7,zaq,zba,zby,zb0,zas,zar,zal,za6,zbb,zbx,zao,zan,zaj,zap,za5,zc5,qS,qP,qC,zgu]
  try simp only[RL]at h1
  obtain rfl:y.length=k:=by omega
  rw [List.take_length,← hpt]
  have hne:prods lv (x.take (i+1)) y≠[]:=by rw [hpt]; intro e; have:=congrArg List.length e; rw [List.length_append,zfs,List.length_map,List.length_nil]at this; omega
  generalize hnx:prods lv (x.take (i+1)) y=Q at hne ⊢
  rw [ze0 hne,zer hne]
  refine W.exit ?_
  refine xe ?_
  refine xe ?_
  refine XBlock.hit ?_
  refine XbN ?_
  refine xn ?_
  refine W.k fun K hK=>?_
  simp(disch:=omega)only[↓RU,RV,RH,↓reduceIte,qE,reduceCtorEq,if_pos,w64,↓RS,RG,qA,qM,qL,zaa]
  apply hK;clear hK K
  refine xn ?_
  refine ⟨x.length - (i+1),by omega,1,[2],[.ref 0 0 0,zfn y,zfn x,.int .i64 x.length,.int .i64 ((i+1:Nat):Int),.loc 1 t1 0 Q.length],⟨.arr 0 60 11 [.bool lv,zax g rs,.int .i64 ra.row,.int .i64 ra.col,.int .i64 ra.high,.int .i64 ra.wide,zax g rs,.int .i64 rb.row,.int .i64 rb.col,.int .i64 rb.high,.int .i64 rb.wide]::[.arr t1 87 2 (scs Q)],(t1+1)⟩,?_,?_,i+1,t1,t1+1,rfl,by omega,by rw [hnx,ze0 hne],by rw [hnx,zer hne]⟩
  ·simp [-qU,Env.put,Env.of,zad,za3,zac,zae,zai,zak,za8,za9,zbz,za7,zaq,zba,zby,zb0,zas,zar,zal,za6,zbb,zbx,zao,zan,zaj,zap,za5,zc5,qS,qP,qC]
  simp [-qU,Env.put,Env.of,zad,za3,zac,zae,zai,zak,za8,za9,zbz,za7,zaq,zba,zby,zb0,zas,zar,zal,za6,zbb,zbx,zao,zan,zaj,zap,za5,zc5,qS,qP,qC,zgu]
 try simp only[RL]at h
 obtain rfl:i=x.length:=by omega
 rw [List.take_length]
 refine W.exit ?_
 refine xe ?_
 refine xe ?_
 refine XBlock.hit ?_
 refine xn ?_
 refine W.r fun K hK=>?_
 have hpne:prods lv x y≠[]:=fun e=>by have:=zkd (lv:=lv) (y:=y) x; rw [e]at this; simp at this; omega
 have hpl1:=List.length_pos_iff.2 hpne
 have hpl2:(prods lv x y).length≤1000*1000:=by rw [zkd]; exact Nat.mul_le_mul hlx hly
 rw [ze0 hpne,zer hpne]
 simp(disch:=omega)only[↓RU,RV,RH,↓reduceIte,qE,reduceCtorEq,if_pos,qN,↓RS,RG,qA,qM,qL]
 refine zaf.ev (z6x (l:=prods lv x y) (by omega) (by omega)) ?_
 rintro _ _ ⟨z,ver2,v2,t2,hzp,hzs,rfl,rfl⟩
 have hb:=zug hzs hzp
 simp(disch:=omega)only[↓RU,RV,RH,↓reduceIte,qE,reduceCtorEq,if_pos,qN,↓RS,RG,qA,qM,qL]
 apply hK;clear hK K
 refine W.ret ?_
 refine Br rfl ?_
 rw [← hb]
 exact zze (f:=8) rfl
theorem zro {p:List Txt} (hp:zcc p=true) {t:Pt} (hw:Whole (zat p) p.length (za1 p).length t) {x:CT} (hx:zc4 (zat p) t=some x):(∀ a∈x.leaves,0≤a∧a<(rP p).length)∧x.leaves.length≤9:=by
 obtain ⟨h1,h2,h3⟩:=zdv (ze4 hp) _ hw (qR _) hx
 have hin:=hw.inn
 unfold Pt.In at hin
 have hb:∀ a∈x.leaves,0≤a∧a<(rP p).length:=by
  intro a ha
  obtain ⟨i,j,e1,e2,e3,e4,e5⟩:=(h2 a).1 ha
  have:=zen hp (i:=i) (j:=j) (by omega) (by omega)
  omega
 have:=zp7 h1 hb
 have:=(zuo hp).1
 exact ⟨hb,by omega⟩
theorem z0a {p:List Txt} (hp:zcc p=true):PC Tryz.prog 35 [zax (gP p) (rP p)] (ziu (gP p) (rP p) (zh6 p).rect) false:=by
 have hg:=z1d hp
 obtain ⟨row,h1,h2,-⟩:=hg.at_ (i:=0) (j:=0) (by have:=hg.2.2; omega) (by have:=hg.2.2; omega)
 have h:=ydo h1 (rP p)
 rw [hg.1,h2]at h
 exact h
theorem zsi {l:List Shp} {i:Nat} {x:Shp} (h:l[i]?=some x):zcv (l.take (i+1))=zcv (l.take i)++[[x.1,x.2]]:=by rw [tk h,zfi,zgb]
theorem z96 {S:Store} {fr:Nat→Bool} {f:Nat} (l:List Shp):(scs l).mapM (rfq S fr (f+1))=some (scs l):=by
 have h:=zwj l
 rw [List.all_eq_true]at h
 exact zcu fun x hx=>by have:=h x hx; cases x <;> simp [scal]at this <;> rfl
theorem zt2  : PC Tryz.prog 62 [.sl [] 0] (.sl [] 0) true:=by
 refine PC.of ⟨Tryz.func62,by kernel_rfl,rfl,by kernel_rfl⟩ zbl mixed (by show 1≤Tryz.f62.ntmps; decide) ?_
 refine W.r fun K hK=>?_
 simp(disch:=omega)only[↓RU,RV,RH,↓reduceIte,qE,reduceCtorEq,if_pos,↓RS,RG,qA,qM,qL]
 apply hK;clear hK K
 refine W.r fun K hK=>?_
 simp(disch:=omega)only[↓RU,RV,RH,↓reduceIte,qE,reduceCtorEq,if_pos,↓RS,RG,qA,qM,qL]
 apply hK;clear hK K
 refine W.seq ?_
 refine W.r fun K hK=>?_
 simp(disch:=omega)only[↓RU,RV,RH,↓reduceIte,qE,reduceCtorEq,if_pos,↓RS,RG,qA,qM,qL,ty4,zfx,zaa,zfy]
 apply hK;clear hK K
 refine W.block ?_
 refine W.loop [3,6,7,8] (fun n vs S=>n=0∧vs=[.nils,.sl [] 0,.int .i64 0,.int .i64 0]∧S=⟨[],0⟩) 0 ?_ ?_
 ·refine ⟨_,rfl,?_,za2⟩
  simp [Env.put,Env.of,zad]
 rintro n vs S - ⟨rfl,rfl,rfl⟩
 refine W.r fun K hK=>?_
 simp(disch:=omega)only[↓RU,RV,RH,↓reduceIte,qE,reduceCtorEq,if_pos,w64,↓RS,RG,qA,qM,qL,zaa]
 apply hK;clear hK K
 refine W.seq ?_
 refine W.cond rfl (fun h=>?_) (fun h=>?_)
 ·try simp only[RL]at h
  exact absurd h (by decide)
 try simp only[RL]at h
 refine W.exit ?_
 refine xe ?_
 refine xe ?_
 refine XBlock.hit ?_
 refine xn ?_
 refine W.r fun K hK=>?_
 simp(disch:=omega)only[↓RU,RV,RH,↓reduceIte,qE,reduceCtorEq,if_pos,↓RS,RG,qA,qM,qL]
 apply hK;clear hK K
 refine W.ret ?_
 refine Br rfl ?_
 rfl
theorem z8q {l:List Shp} (hl:l.length≤1048576) {o0:Ob} {ver t:Nat}:Ev Tryz.prog 62 [.loc 1 ver 0 l.length] ⟨[o0,.arr ver 87 2 (scs l)],t⟩ fun v S=>∃ v2 t2:Nat,v=slR (zcv l) v2∧S=stR (zcv l) v2 t2:=by
 refine Ev.of ⟨Tryz.func62,by kernel_rfl,rfl,by kernel_rfl⟩ zbl mixed (by show 1≤Tryz.f62.ntmps; decide) ?_
 refine W.r fun K hK=>?_
 simp(disch:=omega)only[↓RU,RV,RH,↓reduceIte,qE,reduceCtorEq,if_pos,↓RS,RG,qA,qM,qL]
 apply hK;clear hK K
 refine W.r fun K hK=>?_
 simp(disch:=omega)only[↓RU,RV,RH,↓reduceIte,qE,reduceCtorEq,if_pos,↓RS,RG,qA,qM,qL]
 apply hK;clear hK K
 refine W.seq ?_
 refine W.r fun K hK=>?_
 simp(disch:=omega)only[↓RU,RV,RH,↓reduceIte,qE,reduceCtorEq,if_pos,↓RS,RG,qA,qM,qL,ty4,zfx,zaa,zfy]
 apply hK;clear hK K
 refine W.block ?_
 refine W.loopS [3,6,7,8] (fun n vs S=>∃ (i v t:Nat),n=l.length - i∧i≤l.length∧vs=[slR (zcv (l.take i)) v,zfn l,.int .i64 l.length,.int .i64 i]∧S=stR (zcv (l.take i)) v t) l.length ?_ ?_
 ·refine ⟨0,[],[.nils,zfn l,.int .i64 l.length,.int .i64 (0:Nat)],⟨[],t+1⟩,?_,?_,0,0,t+1,rfl,Nat.zero_le _,rfl,rfl⟩
  ·simp [-qU,Env.put,Env.of,zad,za3,zac,zae,zai,zak,za8,za9,zbz,za7,zaq,zba,zby,zb0,zas,zar,zal,za6,zbb,zbx,zao,zan,zaj,zap,za5,zc5,qS,qP,qC,z96,zcw,zlr]
  simp [-qU,Env.put,Env.of,zad,za3,zac,zae,zai,zak,za8,za9,zbz,za7,zaq,zba,zby,zb0,zas,zar,zal,za6,zbb,zbx,zao,zan,zaj,zap,za5,zc5,qS,qP,qC]
 rintro n vs S - ⟨i,v,t,rfl,h_i,rfl,rfl⟩
 refine W.r fun K hK=>?_
 simp(disch:=omega)only[↓RU,RV,RH,↓reduceIte,qE,reduceCtorEq,if_pos,w64,↓RS,RG,qA,qM,qL,zaa]
 apply hK;clear hK K
 refine W.seq ?_
 refine W.cond rfl (fun h1=>?_) (fun h1=>?_)
 ·try simp only[RL]at h1
  obtain ⟨x,hx,-⟩:=zah (show i<l.length by omega)
  have hrl:(zcv (l.take i)).length=i:=by rw [zdq,List.length_take]; omega
  have hrs:=zsi hx
  have hpx:((scs l).drop (i*2)).take 2=[.int .i64 x.1,.int .i64 x.2]:=zuq hx
  refine W.skip ?_
  refine xn ?_
  refine W.seq ?_
  refine W.block ?_
  refine W.r fun K hK=>?_
  by_cases hi0:i=0
  ·skip
   subst hi0
   have hr0:zcv (l.take 0)=[]:=rfl
   rw [hr0,yar,yat]
   have hpx:(scs l).take 2=[.int .i64 x.1,.int .i64 x.2]:=by simpa using hpx
   simp(disch:=omega)only[↓RU,RV,RH,↓reduceIte,qE,reduceCtorEq,if_pos,↓RS,RG,qA,qM,qL,ty4,zfx,zaa,zfy,hpx,zcw]
   apply hK;clear hK K
   refine W.k fun K hK=>?_
   simp(disch:=omega)only[↓RU,RV,RH,↓reduceIte,qE,reduceCtorEq,if_pos,↓RS,RG,qA,qM,qL,ty1,zab,zfx,zaa,zfy,hrl,List.length_append,List.map_append,List.map_cons,List.map_nil]
   apply hK;clear hK K
   refine XbN ?_
   refine xn ?_
   refine W.k fun K hK=>?_
   simp(disch:=omega)only[↓RU,RV,RH,↓reduceIte,qE,reduceCtorEq,if_pos,w64,↓RS,RG,qA,qM,qL,zaa]
   apply hK;clear hK K
   refine xn ?_
   rw [hr0,List.nil_append]at hrs
   refine ⟨l.length - (0+1),by omega,0,[3],[.loc 0 (t+4) 0 1,zfn l,.int .i64 l.length,.int .i64 ((0+1:Nat):Int)],⟨[.arr (t+4) 24 1 [eInts [x.1,x.2]]],t+5⟩,?_,?_,1,t+4,t+5,rfl,by omega,by rw [hrs]; rfl,by rw [hrs]; rfl⟩
   ·simp [-qU,Env.put,Env.of,zad,za3,zac,zae,zai,zak,za8,za9,zbz,za7,zaq,zba,zby,zb0,zas,zar,zal,za6,zbb,zbx,zao,zan,zaj,zap,za5,zc5,qS,qP,qC]
   simp [-qU,Env.put,Env.of,zad,za3,zac,zae,zai,zak,za8,za9,zbz,za7,zaq,zba,zby,zb0,zas,zar,zal,za6,zbb,zbx,zao,zan,zaj,zap,za5,zc5,qS,qP,qC,znj]
  skip
  have hne:zcv (l.take i)≠[]:=fun e=>hi0 (by rw [e]at hrl; simpa using hrl.symm)
  rw [zzz hne,zz3 hne,hrl]
  simp(disch:=omega)only[↓RU,RV,RH,↓reduceIte,qE,reduceCtorEq,if_pos,↓RS,RG,qA,qM,qL,ty4,zfx,zaa,zfy,hpx,zcw]
  apply hK;clear hK K
  refine W.k fun K hK=>?_
  simp(disch:=omega)only[↓RU,RV,RH,↓reduceIte,qE,reduceCtorEq,if_pos,↓RS,RG,qA,qM,qL,ty1,zab,zfx,zaa,zfy,hrl,List.length_append,List.map_append,List.map_cons,List.map_nil]
  apply hK;clear hK K
  refine XbN ?_
  refine xn ?_
  refine W.k fun K hK=>?_
  simp(disch:=omega)only[↓RU,RV,RH,↓reduceIte,qE,reduceCtorEq,if_pos,w64,↓RS,RG,qA,qM,qL,zaa]
  apply hK;clear hK K
  refine xn ?_
  have hne2:zcv (l.take (i+1))≠[]:=by rw [hrs]; simp
  refine ⟨l.length - (i+1),by omega,1,[],[.loc 0 (t+3) 0 (i+1),zfn l,.int .i64 l.length,.int .i64 ((i+1:Nat):Int)],⟨[.arr (t+3) 24 1 ((zcv (l.take i)).map eInts++[eInts [x.1,x.2]])],t+5⟩,?_,?_,i+1,t+3,t+5,rfl,by omega,by rw [zzz hne2,hrs]; simp [hrl],by rw [zz3 hne2,hrs]; simp⟩
  ·simp [-qU,Env.put,Env.of,zad,za3,zac,zae,zai,zak,za8,za9,zbz,za7,zaq,zba,zby,zb0,zas,zar,zal,za6,zbb,zbx,zao,zan,zaj,zap,za5,zc5,qS,qP,qC]
  simp [-qU,Env.put,Env.of,zad,za3,zac,zae,zai,zak,za8,za9,zbz,za7,zaq,zba,zby,zb0,zas,zar,zal,za6,zbb,zbx,zao,zan,zaj,zap,za5,zc5,qS,qP,qC,znj]
 try simp only[RL]at h1
 obtain rfl:i=l.length:=by omega
 refine W.exit ?_
 refine xe ?_
 refine xe ?_
 refine XBlock.hit ?_
 refine xn ?_
 refine W.r fun K hK=>?_
 simp(disch:=omega)only[↓RU,RV,RH,↓reduceIte,qE,reduceCtorEq,if_pos,↓RS,RG,qA,qM,qL]
 apply hK;clear hK K
 refine W.ret ?_
 refine Br rfl ?_
 rw [List.take_length]
 exact ⟨_,_,_,rfl,za2⟩
theorem ydd {p:List Txt} (hs:Sm p) {ws ht:List Int} (hw:ws.length≤1048576) (hh:ht.length≤1048576) (hv:zde p ws ht=true):Ev Tryz.prog 67 [zbc p,eInts ws,eInts ht] ⟨[],0⟩ fun v S=>∃ (o0:Ob) (v1 t1:Nat),v = .tup [.loc 1 v1 0 (shL (zjc (gP p) p.length (w0 (zb2 p)) (rP p).length) (zfl (gP p) p.length (w0 (zb2 p)) (rP p).length) (rP p).length ws ht (2 ^ (rP p).length)).length,.bool true]∧S=⟨[o0,.arr v1 87 2 (scs (shL (zjc (gP p) p.length (w0 (zb2 p)) (rP p).length) (zfl (gP p) p.length (w0 (zb2 p)) (rP p).length) (rP p).length ws ht (2 ^ (rP p).length)))],t1⟩:=by
 obtain ⟨hv1,hv2,hn8⟩:=zj8 hv
 obtain ⟨hpl,hwl,hwok⟩:=zgq hv1
 obtain ⟨-,hhl,hhok⟩:=zgq hv2
 have hok:=(zr5 hpl).1
 have hg:=z3k hok
 have hn9:=zm6 hok
 have hn1:=zt6 hok
 obtain ⟨hrm,⟨rk,hu⟩,⟨rk2,hu2⟩⟩:=ycv hpl
 generalize hMe:(zjc (gP p) p.length (w0 (zb2 p)) (rP p).length)=M at hu ⊢
 generalize hAe:(zfl (gP p) p.length (w0 (zb2 p)) (rP p).length)=A at hu2 ⊢
 obtain ⟨nr,hnr⟩:∃ nr:Nat,(rP p).length=nr:=⟨_,rfl⟩
 rw [hnr]at hwl hhl hn8 hn9 hn1 hu hu2
 have hp8:=pow8 hn8
 obtain ⟨N,hN⟩:∃ N:Nat,2 ^ nr=N:=⟨_,rfl⟩
 have hsh:=yji (b:=nr) (by omega)
 rw [hN]at hp8 hsh
 refine Ev.of ⟨Tryz.func67,by kernel_rfl,rfl,by kernel_rfl⟩ zbl mixed (by show 3≤Tryz.f67.ntmps; decide) ?_
 refine W.r fun K hK=>?_
 simp(disch:=omega)only[↓RU,RV,RH,↓reduceIte,qE,reduceCtorEq,if_pos,↓RS,RG,qA,qM,qL]
 apply hK;clear hK K
 refine W.r fun K hK=>?_
 simp(disch:=omega)only[↓RU,RV,RH,↓reduceIte,qE,reduceCtorEq,if_pos,qN,↓RS,RG,qA,qM,qL,hv]
 refine zaf.ev (zut hs hw hh) ?_
 rintro _ _ ⟨x,rfl,hx,rfl⟩
 simp(disch:=omega)only[↓RU,RV,RH,↓reduceIte,qE,reduceCtorEq,if_pos,qN,↓RS,RG,qA,qM,qL,hv]
 apply hK;clear hK K
 refine W.seq ?_
 refine W.r fun K hK=>?_
 simp(disch:=omega)only[↓RU,RV,RH,↓reduceIte,qE,reduceCtorEq,if_pos,↓RS,RG,qA,qM,qL]
 apply hK;clear hK K
 refine W.cond rfl (fun h=>?_) (fun h=>?_)
 ·try simp only[RL]at h
  exact absurd h (by simp)
 try simp only[RL]at h
 obtain rfl:=hx hv
 refine W.skip ?_
 refine xn ?_
 refine W.r fun K hK=>?_
 simp(disch:=omega)only[↓RU,RV,RH,↓reduceIte,qE,reduceCtorEq,if_pos,qN,↓RS,RG,qA,qM,qL,ty0,ty2,zau,zjx,zfw,zjy,hMe,hAe]
 refine zaf.pc (z9d hg rfl (by omega) hrm) rfl (.inl rfl) ?_
 simp(disch:=omega)only[↓RU,RV,RH,↓reduceIte,qE,reduceCtorEq,if_pos,qN,↓RS,RG,qA,qM,qL,ty0,ty2,zau,zjx,zfw,zjy,hMe,hAe]
 apply hK;clear hK K
 refine W.r fun K hK=>?_
 simp(disch:=omega)only[↓RU,RV,RH,↓reduceIte,qE,reduceCtorEq,if_pos,↓RS,RG,qA,qM,qL]
 apply hK;clear hK K
 refine W.seq ?_
 refine W.r fun K hK=>?_
 simp(disch:=omega)only[↓RU,RV,RH,↓reduceIte,qE,reduceCtorEq,if_pos,w64,↓RS,RG,qA,qM,qL,ty1,ty3,zab,zej,zdc,zbt,zaa,zek,zbu,zb4,hnr,pShl,hsh]
 apply hK;clear hK K
 refine W.block ?_
 refine W.loopS [1,2,10,11,32,33] (fun n vs S=>∃ k vo v t:Nat,n=N - k∧k≤N∧vs=[eInts ws,eInts ht,.ref 0 vo 0,slC 1 (shL M A nr ws ht k) v,.int .i64 N,.int .i64 k]∧S=⟨.arr vo 68 2 [zml M,zml A]::tlC (shL M A nr ws ht k) v,t⟩) N ?_ ?_
 ·refine ⟨0,[1],[eInts ws,eInts ht,.ref 0 2 0,.nils,.int .i64 N,.int .i64 (0:Nat)],⟨[.arr 2 68 2 [zml M,zml A]],3⟩,?_,?_,0,2,0,3,rfl,by omega,rfl,rfl⟩
  ·simp [-qU,Env.put,Env.of,zad,za3,zac,zae,zai,zak,za8,za9,zbz,za7,zaq,zba,zby,zb0,zas,zar,zal,za6,zbb,zbx,zao,zan,zaj,zap,za5,zc5,qS,qP,qC]
  simp [-qU,Env.put,Env.of,zad,za3,zac,zae,zai,zak,za8,za9,zbz,za7,zaq,zba,zby,zb0,zas,zar,zal,za6,zbb,zbx,zao,zan,zaj,zap,za5,zc5,qS,qP,qC]
 rintro n vs S - ⟨k,vo,v,t,rfl,h_k,rfl,rfl⟩
 refine W.r fun K hK=>?_
 simp(disch:=omega)only[↓RU,RV,RH,↓reduceIte,qE,reduceCtorEq,if_pos,w64,↓RS,RG,qA,qM,qL,zaa]
 apply hK;clear hK K
 refine W.seq ?_
 refine W.cond rfl (fun h1=>?_) (fun h1=>?_)
 ·try simp only[RL]at h1
  refine W.skip ?_
  refine xn ?_
  refine W.seq ?_
  refine W.block ?_
  refine W.r fun K hK=>?_
  simp(disch:=omega)only[↓RU,RV,RH,↓reduceIte,qE,reduceCtorEq,if_pos,↓RS,RG,qA,qM,qL]
  apply hK;clear hK K
  refine W.joinS [1,2,10,11,32,33,12,13,14] (fun vs S=>∃ v t:Nat,vs=[eInts ws,eInts ht,.ref 2 v 0,slC 3 (shL M A nr ws ht k) v,.int .i64 N,.int .i64 k,.int .i64 k,.loc 0 v 0 nr,.loc 1 v 0 nr]∧S=⟨.arr v 3 1 (ws.map (.int .i64)) :: .arr v 3 1 (ht.map (.int .i64)) :: .arr v 68 2 [zml M,zml A]::tlC (shL M A nr ws ht k) v,t⟩) ?_ ?_
  ·
   refine W.k fun K hK=>?_
   by_cases hk:k=0
   ·skip
    have hk0:shL M A nr ws ht k=[]:=by subst hk; rfl
    simp only[hk0,zma,zkn]
    simp(disch:=omega)only[↓RU,RV,RH,↓reduceIte,qE,reduceCtorEq,if_pos,qN,↓RS,RG,qA,qM,qL]
    refine zaf.pn (zpw (l:=ws) (by omega) (by omega)) rfl (.inl rfl) ?_
    simp(disch:=omega)only[↓RU,RV,RH,↓reduceIte,qE,reduceCtorEq,if_pos,qN,↓RS,RG,qA,qM,qL,RN]
    refine zaf.pn (zpw (l:=ht) (by omega) (by omega)) rfl (.inl rfl) ?_
    simp(disch:=omega)only[↓RU,RV,RH,↓reduceIte,qE,reduceCtorEq,if_pos,qN,↓RS,RG,qA,qM,qL,RN]
    apply hK;clear hK K
    refine xn ?_
    refine ⟨0,[1,2,0],[eInts ws,eInts ht,.ref 2 (t+2) 0,slC 3 (shL M A nr ws ht k) (t+2),.int .i64 N,.int .i64 k,.int .i64 k,.loc 0 (t+2) 0 nr,.loc 1 (t+2) 0 nr],⟨.arr (t+2) 3 1 (ws.map (.int .i64)) :: .arr (t+2) 3 1 (ht.map (.int .i64)) :: .arr (t+2) 68 2 [zml M,zml A]::tlC (shL M A nr ws ht k) (t+2),t+3⟩,?_,?_,t+2,t+3,rfl,rfl⟩
    ·rw [hk0,zma]; simp [-qU,Env.put,Env.of,zad,za3,zac,zae,zai,zak,za8,za9,zbz,za7,zaq,zba,zby,zb0,zas,zar,zal,za6,zbb,zbx,zao,zan,zaj,zap,za5,zc5,qS,qP,qC,hwl,hhl] <;> decide
    rw [hk0,zkn]; simp [-qU,Env.put,Env.of,zad,za3,zac,zae,zai,zak,za8,za9,zbz,za7,zaq,zba,zby,zb0,zas,zar,zal,za6,zbb,zbx,zao,zan,zaj,zap,za5,zc5,qS,qP,qC,zga]
   skip
   simp only[ze0 (zjq hk),zer (zjq hk)]
   simp(disch:=omega)only[↓RU,RV,RH,↓reduceIte,qE,reduceCtorEq,if_pos,qN,↓RS,RG,qA,qM,qL]
   refine zaf.pn (zpw (l:=ws) (by omega) (by omega)) rfl (.inl rfl) ?_
   simp(disch:=omega)only[↓RU,RV,RH,↓reduceIte,qE,reduceCtorEq,if_pos,qN,↓RS,RG,qA,qM,qL,RN]
   refine zaf.pn (zpw (l:=ht) (by omega) (by omega)) rfl (.inl rfl) ?_
   simp(disch:=omega)only[↓RU,RV,RH,↓reduceIte,qE,reduceCtorEq,if_pos,qN,↓RS,RG,qA,qM,qL,RN]
   apply hK;clear hK K
   refine xn ?_
   refine ⟨0,[2,3,0,1],[eInts ws,eInts ht,.ref 2 (t+2) 0,slC 3 (shL M A nr ws ht k) (t+2),.int .i64 N,.int .i64 k,.int .i64 k,.loc 0 (t+2) 0 nr,.loc 1 (t+2) 0 nr],⟨.arr (t+2) 3 1 (ws.map (.int .i64)) :: .arr (t+2) 3 1 (ht.map (.int .i64)) :: .arr (t+2) 68 2 [zml M,zml A]::tlC (shL M A nr ws ht k) (t+2),t+3⟩,?_,?_,t+2,t+3,rfl,rfl⟩
   ·rw [ze0 (zjq hk)]; simp [-qU,Env.put,Env.of,zad,za3,zac,zae,zai,zak,za8,za9,zbz,za7,zaq,zba,zby,zb0,zas,zar,zal,za6,zbb,zbx,zao,zan,zaj,zap,za5,zc5,qS,qP,qC,hwl,hhl] <;> decide
   rw [zer (zjq hk)]; simp [-qU,Env.put,Env.of,zad,za3,zac,zae,zai,zak,za8,za9,zbz,za7,zaq,zba,zby,zb0,zas,zar,zal,za6,zbb,zbx,zao,zan,zaj,zap,za5,zc5,qS,qP,qC,zga,zgu]
  rintro vs S - ⟨v2,t2,rfl,rfl⟩
  refine W.seq ?_
  refine W.r fun K hK=>?_
  simp(disch:=omega)only[↓RU,RV,RH,↓reduceIte,qE,reduceCtorEq,if_pos,↓RS,RG,qA,qM,qL,zab,zaa,hwl]
  apply hK;clear hK K
  refine W.block ?_
  refine W.loop [1,2,10,11,32,33,12,13,14,41,42] (fun n vs S=>∃ i t:Nat,n=nr - i∧i≤nr∧vs=[eInts ws,eInts ht,.ref 2 v2 0,slC 3 (shL M A nr ws ht k) v2,.int .i64 N,.int .i64 k,.int .i64 k,.loc 0 v2 0 nr,.loc 1 v2 0 nr,.int .i64 nr,.int .i64 i]∧S=⟨.arr v2 3 1 (((swp ws ht k).take i++ws.drop i).map (.int .i64)) :: .arr v2 3 1 (((swp ht ws k).take i++ht.drop i).map (.int .i64)) :: .arr v2 68 2 [zml M,zml A]::tlC (shL M A nr ws ht k) v2,t⟩) nr ?_ ?_
  ·refine ⟨_,0,t2,rfl,by omega,?_,zbm (by simp)⟩
   simp [Env.put,Env.of]
  rintro n vs S - ⟨i,t3,rfl,h_i,rfl,rfl⟩
  refine W.r fun K hK=>?_
  simp(disch:=omega)only[↓RU,RV,RH,↓reduceIte,qE,reduceCtorEq,if_pos,w64,↓RS,RG,qA,qM,qL,zaa]
  apply hK;clear hK K
  refine W.seq ?_
  refine W.cond rfl (fun h2=>?_) (fun h2=>?_)
  ·try simp only[RL]at h2
   obtain ⟨x,hx,-⟩:=zah (show i<ws.length by omega)
   obtain ⟨y,hy,-⟩:=zah (show i<ht.length by omega)
   have hs1:=yex (set:=k) hx hy
   have hs2:=yex (set:=k) hy hx
   have hl1:(swp ws ht k).length=ws.length:=zjj
   have hl2:(swp ht ws k).length=ht.length:=zjj
   have hm1:=yej (i:=i) hl1
   have hm2:=yej (i:=i) hl2
   rw [hx]at hm1
   rw [hy]at hm2
   have hn1a:=z8w (i:=i) hl1
   have hn2a:=z8w (i:=i) hl2
   refine W.skip ?_
   refine xn ?_
   refine W.seq ?_
   refine W.block ?_
   refine W.r fun K hK=>?_
   simp(disch:=omega)only[↓RU,RV,RH,↓reduceIte,qE,reduceCtorEq,if_pos,↓RS,RG,qA,qM,qL]
   apply hK;clear hK K
   refine W.r fun K hK=>?_
   simp(disch:=omega)only[↓RU,RV,RH,↓reduceIte,qE,reduceCtorEq,if_pos,w64,↓RS,RG,qA,qM,qL,zaa,pShr,yjh]
   apply hK;clear hK K
   refine W.cond rfl (fun h3=>?_) (fun h3=>?_)
   ·try simp only[RL]at h3
    rw [h3]at hs1 hs2
    simp only[if_true]at hs1 hs2
    refine W.draw_k (by kernel_rfl) fun K hK=>?_
    simp(disch:=omega)only[↓RU,RV,RH,↓reduceIte,qE,reduceCtorEq,if_pos,↓RS,RG,qA,qM,qL,zab,zaa,hm1,hm2,hn1a,hn2a,zcy,zff]
    apply hK;clear hK K
    refine XbN ?_
    refine xn ?_
    refine W.k fun K hK=>?_
    simp(disch:=omega)only[↓RU,RV,RH,↓reduceIte,qE,reduceCtorEq,if_pos,w64,↓RS,RG,qA,qM,qL,zaa]
    apply hK;clear hK K
    refine xn ?_
    refine ⟨nr - (i+1),by omega,_,i+1,t3,rfl,by omega,?_,zbm (by rw [z3f hs1 hl1,z3f hs2 hl2])⟩
    simp [Env.put,Env.of]
   try simp only[RL]at h3
   rw [h3]at hs1 hs2
   simp only[qF,if_false]at hs1 hs2
   refine W.skip ?_
   refine XbN ?_
   refine xn ?_
   refine W.k fun K hK=>?_
   simp(disch:=omega)only[↓RU,RV,RH,↓reduceIte,qE,reduceCtorEq,if_pos,w64,↓RS,RG,qA,qM,qL,zaa]
   apply hK;clear hK K
   refine xn ?_
   refine ⟨nr - (i+1),by omega,_,i+1,t3,rfl,by omega,?_,zbm (by rw [← z3e hs1 hx,← z3e hs2 hy])⟩
   simp [Env.put,Env.of]
  try simp only[RL]at h2
  obtain rfl:i=nr:=by omega
  rw [qT (by rw [zjj]; omega),List.drop_of_length_le (by omega),qN,qT (by rw [zjj]; omega),List.drop_of_length_le (by omega),qN]
  have hok1:=zz4 (set:=k) hwok hhok (by omega)
  have hok2:=zz4 (set:=k) hhok hwok (by omega)
  have hl1:(swp ws ht k).length=i:=by rw [zjj]; omega
  have hl2:(swp ht ws k).length=i:=by rw [zjj]; omega
  have hh1:=zgn (M:=M) (ws:=swp ws ht k) (n:=i)
  have hh2:=zgn (M:=A) (ws:=swp ht ws k) (n:=i)
  obtain ⟨y1,hy1,-⟩:=zah (show 0<(heaviest M (swp ws ht k) i).length by omega)
  obtain ⟨y2,hy2,-⟩:=zah (show 0<(heaviest A (swp ht ws k) i).length by omega)
  have hSl:=z1s (L:=M) (A:=A) (n:=i) (ws:=ws) (ht:=ht) (k:=k)
  have hcl:=zcw (shL M A i ws ht k)
  have hct:(scs (shL M A i ws ht k)).take (k*2)=scs (shL M A i ws ht k):=qT (by omega)
  refine W.exit ?_
  refine xe ?_
  refine xe ?_
  refine XBlock.hit ?_
  refine xn ?_
  refine W.draw_k (by kernel_rfl) fun K hK=>?_
  by_cases hk:k=0
  ·skip
   have hk0:shL M A i ws ht k=[]:=by subst hk; rfl
   simp only[hk0,zma,zkn]
   simp(disch:=omega)only[↓RU,RV,RH,↓reduceIte,qE,reduceCtorEq,if_pos,qN,↓RS,RG,qA,qM,qL,ty0,ty2,ty4,zau,zjx,zfw,zfx,zaa,zjy,zfy]
   refine zaf.pc (zjb hu hn9 hl1 hok1) (za0 rfl (za0 (zgt (k:=8) rfl hl1) rfl)) (.inl rfl) ?_
   simp(disch:=omega)only[↓RU,RV,RH,↓reduceIte,qE,reduceCtorEq,if_pos,qN,↓RS,RG,qA,qM,qL,ty0,ty2,ty4,zau,zjx,zfw,zfx,zaa,zjy,zfy]
   refine zaf.pc (z3c hy1 (by omega)) rfl (.inl rfl) ?_
   simp(disch:=omega)only[↓RU,RV,RH,↓reduceIte,qE,reduceCtorEq,if_pos,qN,↓RS,RG,qA,qM,qL,ty0,ty2,ty4,zau,zjx,zfw,zfx,zaa,zjy,zfy]
   refine zaf.pc (zjb hu2 hn9 hl2 hok2) (za0 rfl (za0 (zgt (k:=8) rfl hl2) rfl)) (.inl rfl) ?_
   simp(disch:=omega)only[↓RU,RV,RH,↓reduceIte,qE,reduceCtorEq,if_pos,qN,↓RS,RG,qA,qM,qL,ty0,ty2,ty4,zau,zjx,zfw,zfx,zaa,zjy,zfy]
   refine zaf.pc (z3c hy2 (by omega)) rfl (.inl rfl) ?_
   simp(disch:=omega)only[↓RU,RV,RH,↓reduceIte,qE,reduceCtorEq,if_pos,qN,↓RS,RG,qA,qM,qL,ty0,ty2,ty4,zau,zjx,zfw,zfx,zaa,zjy,zfy]
   apply hK;clear hK K
   refine XbN ?_
   refine xn ?_
   refine W.k fun K hK=>?_
   simp(disch:=omega)only[↓RU,RV,RH,↓reduceIte,qE,reduceCtorEq,if_pos,w64,↓RS,RG,qA,qM,qL,zaa]
   apply hK;clear hK K
   refine xn ?_
   refine ⟨N - (k+1),by omega,0,[2,4],[eInts ws,eInts ht,.ref 0 (t3+2) 0,slC 1 (shL M A i ws ht (k+1)) (t3+2),.int .i64 N,.int .i64 ((k+1:Nat):Int)],⟨.arr (t3+2) 68 2 [zml M,zml A]::tlC (shL M A i ws ht (k+1)) (t3+2),t3+3⟩,?_,?_,k+1,t3+2,t3+2,t3+3,rfl,by omega,rfl,rfl⟩
   ·rw [ze0 (zjq (by omega)),zql,hk0]; simp [-qU,Env.put,Env.of,zad,za3,zac,zae,zai,zak,za8,za9,zbz,za7,zaq,zba,zby,zb0,zas,zar,zal,za6,zbb,zbx,zao,zan,zaj,zap,za5,zc5,qS,qP,qC] <;> decide
   rw [zer (zjq (by omega)),zql,hk0]; simp [-qU,Env.put,Env.of,zad,za3,zac,zae,zai,zak,za8,za9,zbz,za7,zaq,zba,zby,zb0,zas,zar,zal,za6,zbb,zbx,zao,zan,zaj,zap,za5,zc5,qS,qP,qC,scs,ztr,shI]
  skip
  simp only[ze0 (zjq hk),zer (zjq hk)]
  simp(disch:=omega)only[↓RU,RV,RH,↓reduceIte,qE,reduceCtorEq,if_pos,qN,↓RS,RG,qA,qM,qL,ty0,ty2,ty4,zau,zjx,zfw,zfx,zaa,zjy,zfy,hcl,hSl]
  refine zaf.pc (zjb hu hn9 hl1 hok1) (za0 rfl (za0 (zgt (k:=8) rfl hl1) rfl)) (.inl rfl) ?_
  simp(disch:=omega)only[↓RU,RV,RH,↓reduceIte,qE,reduceCtorEq,if_pos,qN,↓RS,RG,qA,qM,qL,ty0,ty2,ty4,zau,zjx,zfw,zfx,zaa,zjy,zfy,hcl,hSl]
  refine zaf.pc (z3c hy1 (by omega)) rfl (.inl rfl) ?_
  simp(disch:=omega)only[↓RU,RV,RH,↓reduceIte,qE,reduceCtorEq,if_pos,qN,↓RS,RG,qA,qM,qL,ty0,ty2,ty4,zau,zjx,zfw,zfx,zaa,zjy,zfy,hcl,hSl]
  refine zaf.pc (zjb hu2 hn9 hl2 hok2) (za0 rfl (za0 (zgt (k:=8) rfl hl2) rfl)) (.inl rfl) ?_
  simp(disch:=omega)only[↓RU,RV,RH,↓reduceIte,qE,reduceCtorEq,if_pos,qN,↓RS,RG,qA,qM,qL,ty0,ty2,ty4,zau,zjx,zfw,zfx,zaa,zjy,zfy,hcl,hSl]
  refine zaf.pc (z3c hy2 (by omega)) rfl (.inl rfl) ?_
  simp(disch:=omega)only[↓RU,RV,RH,↓reduceIte,qE,reduceCtorEq,if_pos,qN,↓RS,RG,qA,qM,qL,ty0,ty2,ty4,zau,zjx,zfw,zfx,zaa,zjy,zfy,hcl,hSl]
  apply hK;clear hK K
  refine XbN ?_
  refine xn ?_
  refine W.k fun K hK=>?_
  simp(disch:=omega)only[↓RU,RV,RH,↓reduceIte,qE,reduceCtorEq,if_pos,w64,↓RS,RG,qA,qM,qL,zaa]
  apply hK;clear hK K
  refine xn ?_
  refine ⟨N - (k+1),by omega,0,[2,3],[eInts ws,eInts ht,.ref 0 (t3+2) 0,slC 1 (shL M A i ws ht (k+1)) (t3+2),.int .i64 N,.int .i64 ((k+1:Nat):Int)],⟨.arr (t3+2) 68 2 [zml M,zml A]::tlC (shL M A i ws ht (k+1)) (t3+2),t3+3⟩,?_,?_,k+1,t3+2,t3+2,t3+3,rfl,by omega,rfl,rfl⟩
  ·rw [ze0 (zjq (by omega)),zql]; simp [-qU,Env.put,Env.of,zad,za3,zac,zae,zai,zak,za8,za9,zbz,za7,zaq,zba,zby,zb0,zas,zar,zal,za6,zbb,zbx,zao,zan,zaj,zap,za5,zc5,qS,qP,qC,hSl] <;> decide
  rw [zer (zjq (by omega)),zql,znr]; simp [-qU,Env.put,Env.of,zad,za3,zac,zae,zai,zak,za8,za9,zbz,za7,zaq,zba,zby,zb0,zas,zar,zal,za6,zbb,zbx,zao,zan,zaj,zap,za5,zc5,qS,qP,qC,zgu,shI,hct]
 try simp only[RL]at h1
 obtain rfl:k=N:=by omega
 refine W.exit ?_
 refine xe ?_
 refine xe ?_
 refine XBlock.hit ?_
 refine xn ?_
 refine W.r fun K hK=>?_
 simp(disch:=omega)only[↓RU,RV,RH,↓reduceIte,qE,reduceCtorEq,if_pos,↓RS,RG,qA,qM,qL]
 apply hK;clear hK K
 refine W.ret ?_
 refine Br rfl ?_
 rw [hnr,hN,ze0 (zjq (by omega)),zer (zjq (by omega))]
 exact ⟨2,_,_,_,rfl,rfl⟩
theorem z1t {p:List Txt} (hs:Sm p) {ws ht:List Int} (hw:ws.length≤1048576) (hh:ht.length≤1048576) (hv:zde p ws ht=false):PC Tryz.prog 30 [zbc p,eInts ws,eInts ht] (.tup [.sl [] 0,.bool false]) true:=by
 refine PC.of ⟨Tryz.func30,by kernel_rfl,rfl,by kernel_rfl⟩ zbl mixed (by show 3≤Tryz.f30.ntmps; decide) ?_
 refine W.r fun K hK=>?_
 simp(disch:=omega)only[↓RU,RV,RH,↓reduceIte,qE,reduceCtorEq,if_pos,↓RS,RG,qA,qM,qL]
 apply hK;clear hK K
 refine W.r fun K hK=>?_
 simp(disch:=omega)only[↓RU,RV,RH,↓reduceIte,qE,reduceCtorEq,if_pos,qN,↓RS,RG,qA,qM,qL]
 refine zaf.pc (yde hs hw hh hv) rfl (.inl rfl) ?_
 simp(disch:=omega)only[↓RU,RV,RH,↓reduceIte,qE,reduceCtorEq,if_pos,qN,↓RS,RG,qA,qM,qL]
 apply hK;clear hK K
 refine W.r fun K hK=>?_
 simp(disch:=omega)only[↓RU,RV,RH,↓reduceIte,qE,reduceCtorEq,if_pos,qN,↓RS,RG,qA,qM,qL]
 refine zaf.pc (ybt) rfl (.inl rfl) ?_
 simp(disch:=omega)only[↓RU,RV,RH,↓reduceIte,qE,reduceCtorEq,if_pos,qN,↓RS,RG,qA,qM,qL]
 refine zaf.pc (zt2) rfl (.inl rfl) ?_
 simp(disch:=omega)only[↓RU,RV,RH,↓reduceIte,qE,reduceCtorEq,if_pos,qN,↓RS,RG,qA,qM,qL]
 apply hK;clear hK K
 refine W.ret ?_
 refine Br rfl ?_
 rfl
theorem zzv {p:List Txt} (hs:Sm p) {ws ht:List Int} (hw:ws.length≤1048576) (hh:ht.length≤1048576) (hv:zde p ws ht=true):PC Tryz.prog 30 [zbc p,eInts ws,eInts ht] (.tup [zel (zs7 (shI (zjc (gP p) p.length (w0 (zb2 p)) (rP p).length) (zfl (gP p) p.length (w0 (zb2 p)) (rP p).length) (rP p).length ws ht) (2 ^ (rP p).length)),.bool true]) false:=by
 have hp8:=pow8 (zj8 hv).2.2
 have hp1:1≤2 ^ (rP p).length:=Nat.one_le_two_pow
 have hsl:(shL (zjc (gP p) p.length (w0 (zb2 p)) (rP p).length) (zfl (gP p) p.length (w0 (zb2 p)) (rP p).length) (rP p).length ws ht (2 ^ (rP p).length)).length=2 ^ (rP p).length:=z1s
 refine PC.of ⟨Tryz.func30,by kernel_rfl,rfl,by kernel_rfl⟩ zbl mixed (by show 3≤Tryz.f30.ntmps; decide) ?_
 refine W.r fun K hK=>?_
 simp(disch:=omega)only[↓RU,RV,RH,↓reduceIte,qE,reduceCtorEq,if_pos,↓RS,RG,qA,qM,qL]
 apply hK;clear hK K
 refine W.r fun K hK=>?_
 simp(disch:=omega)only[↓RU,RV,RH,↓reduceIte,qE,reduceCtorEq,if_pos,qN,↓RS,RG,qA,qM,qL]
 refine zaf.ev (ydd hs hw hh hv) ?_
 rintro _ _ ⟨o0,v1,t1,rfl,rfl⟩
 simp(disch:=omega)only[↓RU,RV,RH,↓reduceIte,qE,reduceCtorEq,if_pos,qN,↓RS,RG,qA,qM,qL]
 apply hK;clear hK K
 refine W.r fun K hK=>?_
 simp(disch:=omega)only[↓RU,RV,RH,↓reduceIte,qE,reduceCtorEq,if_pos,qN,↓RS,RG,qA,qM,qL]
 refine zaf.ev (z6x (l:=(shL (zjc (gP p) p.length (w0 (zb2 p)) (rP p).length) (zfl (gP p) p.length (w0 (zb2 p)) (rP p).length) (rP p).length ws ht (2 ^ (rP p).length))) (by omega) (by omega)) ?_
 rintro _ _ ⟨z,ver2,v2,t2,hzp,hzs,rfl,rfl⟩
 have hbs:=z6y hzs hzp
 have hbl:(bsF z).length≤1048576:=by have:=zvd z z.length (qR _); rw [List.take_length]at this; have:=hzp.length_eq; omega
 simp(disch:=omega)only[↓RU,RV,RH,↓reduceIte,qE,reduceCtorEq,if_pos,qN,↓RS,RG,qA,qM,qL]
 refine zaf.ev (z8q hbl) ?_
 rintro _ _ ⟨v3,t3,rfl,rfl⟩
 simp(disch:=omega)only[↓RU,RV,RH,↓reduceIte,qE,reduceCtorEq,if_pos,qN,↓RS,RG,qA,qM,qL]
 apply hK;clear hK K
 refine W.ret ?_
 refine Br rfl ?_
 rw [← hbs]
 exact zho (k:=9) (zzf.trans (by rw [ze1,zdq])) rfl

theorem PC.old {P:Program} {f:FuncId} {args:List PV} {r:PV} (h:PC P f args r true):PC P f args r false :=
 ⟨h.ent,fun F w c h1 h2 h3=>(h.run F w c h1 h2 h3).mono fun _ _ ⟨cv,a,b,d⟩=>⟨cv,a,b,d.mono (fun _ hb => .inl (hb.resolve_right (by simp))) (fun _ _=>rfl)⟩⟩
section
theorem zs8 {f g:Nat→Shp}:∀ {k:Nat},(∀ s,s<k→f s=g s)→zs7 f k=zs7 g k
 | 0,_=>rfl
 | k+1,h=>by rw [zmq,zmq,zs8 (k:=k) fun s hs=>h s (by omega),h k (by omega)]
section
variable {p:List Txt} {ws ht:List Int}
def zxc (p:List Txt) (ws ht:List Int):List Shp:=if zde p ws ht then zs7 (shS p ws ht) (2 ^ ws.length) else []
theorem z1u (hs:Sm p) (hw:ws.length≤1048576) (hh:ht.length≤1048576):PC Tryz.prog 30 [zbc p,eInts ws,eInts ht] (.tup [zel (zxc p ws ht),.bool (zde p ws ht)]) false:=by
 cases hv:zde p ws ht with
 | false =>
  have e:zxc p ws ht=[]:=by unfold zxc; rw [hv,if_neg Bool.false_ne_true]
  rw [e]
  exact (z1t hs hw hh hv).old
 | true =>
  obtain ⟨h1,h2,-⟩:=zj8 hv
  have e:zxc p ws ht=zs7 (shI (zjc (gP p) p.length (w0 (zb2 p)) (rP p).length) (zfl (gP p) p.length (w0 (zb2 p)) (rP p).length) (rP p).length ws ht) (2 ^ (rP p).length):=by
   unfold zxc
   rw [hv,if_pos rfl,(zgq h1).2.1]
   exact zs8 fun s _=>(yie h1 h2 s).symm
  rw [e]
  exact zzv hs hw hh hv
theorem z6w (h:zde p ws ht=true):zxc p ws ht=zs7 (shS p ws ht) (2 ^ ws.length):=by unfold zxc; rw [h,if_pos rfl]
end
end
theorem zjh {l:List Shp} (hl:l.length≤1048576):PC Tryz.prog 29 [zel l,zel l] (.bool true) true:=by
 refine PC.of ⟨Tryz.func29,by kernel_rfl,rfl,by kernel_rfl⟩ zbl mixed (by show 2≤Tryz.f29.ntmps; decide) ?_
 refine W.r fun K hK=>?_
 simp(disch:=omega)only[↓RU,RV,RH,↓reduceIte,qE,reduceCtorEq,if_pos]
 apply hK;clear hK K
 refine W.seq ?_
 refine W.r fun K hK=>?_
 simp(disch:=omega)only[↓RU,RV,RH,↓reduceIte,qE,reduceCtorEq,if_pos,w64,ty1,zab,zaa]
 apply hK;clear hK K
 refine W.cond rfl (fun h0=>?_) (fun h0=>?_)
 ·try simp only[RL]at h0
  exact absurd h0 (by simp)
 try simp only[RL]at h0
 refine W.skip ?_
 refine xn ?_
 refine W.seq ?_
 refine W.r fun K hK=>?_
 simp(disch:=omega)only[↓RU,RV,RH,↓reduceIte,qE,reduceCtorEq,if_pos]
 apply hK;clear hK K
 refine W.block ?_
 refine W.loop [0,1,5] (fun n vs S=>∃ i:Nat,n=l.length - i∧i≤l.length∧vs=[zel l,zel l,.int .i64 i]∧S=⟨[],0⟩) (l.length) ?_ ?_
 ·refine ⟨0,0,rfl,Nat.zero_le _,?_,rfl⟩
  simp [Env.put,Env.of,zad]
 rintro n vs S - ⟨i,rfl,h_i,rfl,rfl⟩
 refine W.seq ?_
 refine W.r fun K hK=>?_
 simp(disch:=omega)only[↓RU,RV,RH,↓reduceIte,qE,reduceCtorEq,if_pos,w64,ty1,zab,zaa]
 apply hK;clear hK K
 refine W.cond rfl (fun h1=>?_) (fun h1=>?_)
 ·try simp only[RL]at h1
  obtain ⟨x,hx,-⟩:=zah (show i<l.length by omega)
  have hxr:=zi3 hx
  have hrl:=zdq (l:=l)
  refine W.skip ?_
  refine xn ?_
  refine W.seq ?_
  refine W.block ?_
  refine W.seq_draw (by kernel_rfl) fun K hK=>?_
  simp(disch:=omega)only[↓RU,RV,RH,↓reduceIte,qE,reduceCtorEq,if_pos,qN,ty1,zab,zaa,hxr,hrl]
  refine zaf.pc (z1m (p:=[x.1,x.2]) (q:=[x.1,x.2]) (by simp) (by simp)) rfl (.inl rfl) ?_
  simp(disch:=omega)only[↓RU,RV,RH,↓reduceIte,qE,reduceCtorEq,if_pos,qN,ty1,zab,zaa,hxr,hrl]
  apply hK;clear hK K
  refine W.cond rfl (fun h2=>?_) (fun h2=>?_)
  ·try simp only[RL]at h2
   exact absurd h2 (by simp)
  try simp only[RL]at h2
  refine W.skip ?_
  refine XbN ?_
  refine xn ?_
  refine W.k fun K hK=>?_
  simp(disch:=omega)only[↓RU,RV,RH,↓reduceIte,qE,reduceCtorEq,if_pos,w64,zaa]
  apply hK;clear hK K
  refine xn ?_
  refine ⟨l.length - (i+1),by omega,0,i+1,rfl,by omega,?_,rfl⟩
  simp [Env.put,Env.of]
 try simp only[RL]at h1
 obtain rfl:i=l.length:=by omega
 refine W.exit ?_
 refine xe ?_
 refine xe ?_
 refine XBlock.hit ?_
 refine xn ?_
 refine W.r fun K hK=>?_
 simp(disch:=omega)only[↓RU,RV,RH,↓reduceIte,qE,reduceCtorEq,if_pos]
 apply hK;clear hK K
 refine W.ret ?_
 refine Br rfl ?_
 rfl
def lc2 (b v n:Nat):List PV:=(List.range n).map fun j => .loc (b+j) v 0 2


theorem ze8 {p:List Txt} (hp:zcc p=true) {ws ht:List Int} (hnw:zd9 ws) (hnh:zd9 ht) (hlw:ws.length=(rP p).length) (hlh:ht.length=(rP p).length) {t:Pt} (hw:Whole (zat p) p.length (za1 p).length t) {x:CT} (hx:zc4 (zat p) t=some x) :
  ShB 1000 (ziq ws ht x)∧(ziq ws ht x).length≤82∧1≤(ziq ws ht x).length:=by
 obtain ⟨b1,b2⟩:=zro hp hw hx
 obtain ⟨f1,f2,f3⟩:=zuu (x:=x) (ws:=ws) (ht:=ht) (fun a ha=>zkc hnw (by have:=b1 a ha; omega)) fun a ha=>zkc hnh (by have:=b1 a ha; omega)
 have f4:ShB ((81:Nat):Int) (ziq ws ht x):=f1.mono (by omega)
 exact ⟨f4.mono (by omega),yau f2 f4,f3⟩
theorem zr2 {l:List Shp} {s:Shp}:pareto (l++[s])=put (pareto l) s.1 s.2:=by simp [pareto,List.foldl_append]
theorem ycs {lv:Bool} {X Y:List Shp} {i k:Nat} {a:Shp} (h:X[i]?=some a):∀ s∈prods lv (X.take i) Y++zfs lv a (Y.take k),s∈prods lv X Y:=by
 intro s hs
 unfold prods zfs at *
 rcases List.mem_append.1 hs with hs | hs
 ·obtain ⟨c,hc,hs⟩:=List.mem_flatMap.1 hs
  exact List.mem_flatMap.2 ⟨c,List.take_subset _ _ hc,hs⟩
 obtain ⟨c,hc,rfl⟩:=List.mem_map.1 hs
 exact List.mem_flatMap.2 ⟨a,List.mem_of_getElem? h,List.mem_map.2 ⟨c,List.take_subset _ _ hc,rfl⟩⟩
theorem yf8 {B:Nat} {l:List Shp} (h:ShB B l):(pareto l).length≤B+1:=yau (zeo l).st h.put
theorem zxj {lv:Bool} {X Y:List Shp} (hX:ShB 1000 X) (hY:ShB 1000 Y) {i k:Nat} {a:Shp} (h:X[i]?=some a):(pareto (prods lv (X.take i) Y++zfs lv a (Y.take k))).length≤1048576:=by
 have h1:=hX.prods hY lv
 have h2:ShB ((2000:Nat):Int) (prods lv (X.take i) Y++zfs lv a (Y.take k)):=fun s hs=>by have:=h1 s (ycs h s hs); omega
 have:=yf8 h2
 omega
def bcV (p:List Txt) (ws ht:List Int):List Shp:=if zde p ws ht then match (zc4 (zat p) (zh6 p)) with | some x=>ziq ws ht x | none=>[] else []
def bcB (p:List Txt) (ws ht:List Int):Bool:=zde p ws ht && (zc4 (zat p) (zh6 p)).isSome
theorem zf5 {p:List Txt} {ws ht:List Int} (h:zde p ws ht=true):zcc p=true∧zd9 ws∧zd9 ht∧ws.length=(rP p).length∧ht.length=(rP p).length∧zdp p [ws,ht]=true:=by
 obtain ⟨h1,h2,-⟩:=zj8 h
 obtain ⟨-,-,q1,-,-,q4,q5⟩:=zm5 h1
 obtain ⟨-,-,u1,-,-,u4,-⟩:=zm5 h2
 refine ⟨zec q5,q4,u4,q1,u1,?_⟩
 unfold zde at h
 simp only[qB]at h
 exact h.1
theorem zqv {p:List Txt} {ws ht:List Int} (h:bcB p ws ht=true):∃ x,zde p ws ht=true∧(zc4 (zat p) (zh6 p))=some x∧bcV p ws ht=ziq ws ht x∧1≤(bcV p ws ht).length∧(bcV p ws ht).length≤256:=by
 unfold bcB at h
 simp only[qB]at h
 obtain ⟨x,hx⟩:=Option.isSome_iff_exists.1 h.2
 obtain ⟨g1,g2,g3,g4,g5,-⟩:=zf5 h.1
 have hf:=ze8 g1 g2 g3 g4 g5 (zg0 g1) hx
 have e:bcV p ws ht=ziq ws ht x:=by unfold bcV; rw [h.1,if_pos rfl,hx]
 exact ⟨x,h.1,hx,e,by rw [e]; exact hf.2.2,by rw [e]; omega⟩
theorem ztb {p:List Txt} {ws ht:List Int} (h:bcB p ws ht=false):bcV p ws ht=[]:=by
 unfold bcB at h; unfold bcV
 cases hg:zde p ws ht with
 | false=>rfl
 | true=>rw [hg]at h; simp only[Bool.true_and,Option.isSome_eq_false_iff,Option.isNone_iff_eq_none]at h; rw [h]; rfl
theorem zvb {p:List Txt} {ws ht:List Int}:(bcV p ws ht).length≤256:=by
 cases h:bcB p ws ht with
 | false=>rw [ztb h]; simp
 | true=>obtain ⟨-,-,-,-,-,h⟩:=zqv h; exact h
theorem zx3 {p:List Txt} (hp:zcc p=true) {rf cf:FuncId} {rc cc:List PV} (hr9:∀ S,rc.mapM (reify S true 9)=some rc) (hr10:∀ S,rc.mapM (reify S true 10)=some rc) (hc9:∀ S,cc.mapM (reify S true 9)=some cc) (hc10:∀ S,cc.mapM (reify S true 10)=some cc)
  {room:Int→List Shp} {cut:Bool→List Shp→List Shp→List Shp} (hroom:∀ a:Int,0≤a→a<(rP p).length→PC Tryz.prog rf (.int .i64 a::rc) ((zfn) (room a)) false)
  (hcut:∀ (t:Pt) q x y,Whole (zat p) p.length (za1 p).length t→zd4 (zat p) t=some q→zc4 (zat p) (t.one q)=some x→zc4 (zat p) (t.two q)=some y→PC Tryz.prog cf (z2r (gP p) (rP p) t q::(zfn) (x.fold room cut)::(zfn) (y.fold room cut)::cc) ((zfn) (cut q.1 (x.fold room cut) (y.fold room cut))) false) {t:Pt} (hw:Whole (zat p) p.length (za1 p).length t) (ih:∀ t':Pt,Whole (zat p) p.length (za1 p).length t'→t'.h*t'.w<t.h*t.w→PC Tryz.prog 60 [ziu (gP p) (rP p) t'.rect,.fn rf rc,.fn cf cc] (zq9 (zfn) (.sl [] 0) room cut (zc4 (zat p) t')) false):PC Tryz.prog 60 [ziu (gP p) (rP p) t.rect,.fn rf rc,.fn cf cc] (zq9 (zfn) (.sl [] 0) room cut (zc4 (zat p) t)) false:=by
 have hin:=hw.inn
 unfold Pt.In at hin
 obtain ⟨hn9,hfit⟩:=zuo hp
 have hv:0≤zat p t.r t.c∧zat p t.r t.c<(rP p).length:=zen hp (by omega) (by omega)
 change PC _ _ [.agg [zax (gP p) (rP p),.int .i64 t.r,.int .i64 t.c,.int .i64 t.h,.int .i64 t.w],.fn rf rc,.fn cf cc] _ _
 refine PC.of ⟨Tryz.func60,by kernel_rfl,rfl,by kernel_rfl⟩ zbl mixed (by show 3≤Tryz.f60.ntmps; decide) ?_
 refine W.r fun K hK=>?_
 simp(disch:=omega)only[↓RU,RV,RH,↓reduceIte,qE,reduceCtorEq,if_pos,↓RS,RG,qA,qM,qL,ty8,zcs,zbt,zaa,zct,zbu]
 apply hK;clear hK K
 refine W.r fun K hK=>?_
 simp(disch:=omega)only[↓RU,RV,RH,↓reduceIte,qE,reduceCtorEq,if_pos,↓RS,RG,qA,qM,qL]
 apply hK;clear hK K
 refine W.seq ?_
 refine W.r fun K hK=>?_
 cases h1:zw7 (zat p) t
 ·skip
  have hmore:=yc5 hp hw h1
  have hL:=z8p (gP p) (by omega) hfit (z3z hp hw.inn)
  simp(disch:=omega)only[↓RU,RV,RH,↓reduceIte,qE,reduceCtorEq,if_pos,qN,↓RS,RG,qA,qM,qL,ty8,zcs,zbt,zaa,zct,zbu]
  refine zaf.pc (hL) rfl (.inl rfl) ?_
  simp(disch:=omega)only[↓RU,RV,RH,↓reduceIte,qE,reduceCtorEq,if_pos,qN,↓RS,RG,qA,qM,qL,ty8,zcs,zbt,zaa,zct,zbu]
  apply hK;clear hK K
  refine W.r fun K hK=>?_
  simp(disch:=omega)only[↓RU,RV,RH,↓reduceIte,qE,reduceCtorEq,if_pos,w64,↓RS,RG,qA,qM,qL,zab,zaa]
  apply hK;clear hK K
  refine W.cond rfl (fun h0=>?_) (fun h0=>?_)
  ·try simp only[RL]at h0
   exfalso; omega
  try simp only[RL]at h0
  refine W.skip ?_
  refine xn ?_
  refine W.r fun K hK=>?_
  rcases hq:zd4 (zat p) t with _ | q
  ·skip
   have hF:PC Tryz.prog 73 [ziu (gP p) (rP p) t.rect] (.tup [.agg [.bool false,.nilp,.int .i64 0,.int .i64 0,.int .i64 0,.int .i64 0,.nilp,.int .i64 0,.int .i64 0,.int .i64 0,.int .i64 0],.bool false]) false:=by have h:=z20 hp hw.inn; simp only[zx2,hq]at h; exact h
   simp(disch:=omega)only[↓RU,RV,RH,↓reduceIte,qE,reduceCtorEq,if_pos,qN,↓RS,RG,qA,qM,qL,ty8,zau,zcs,zh7,zbt,zaa,zct,zh8,zbu]
   refine zaf.pc (hF) rfl (.inr rfl) ?_
   simp(disch:=omega)only[↓RU,RV,RH,↓reduceIte,qE,reduceCtorEq,if_pos,qN,↓RS,RG,qA,qM,qL,ty8,zau,zcs,zh7,zbt,zaa,zct,zh8,zbu]
   apply hK;clear hK K
   refine W.seq ?_
   refine W.r fun K hK=>?_
   simp(disch:=omega)only[↓RU,RV,RH,↓reduceIte,qE,reduceCtorEq,if_pos,↓RS,RG,qA,qM,qL]
   apply hK;clear hK K
   refine W.cond rfl (fun h2=>?_) (fun h2=>?_)
   ·try simp only[RL]at h2
    refine W.r fun K hK=>?_
    simp(disch:=omega)only[↓RU,RV,RH,↓reduceIte,qE,reduceCtorEq,if_pos,↓RS,RG,qA,qM,qL]
    apply hK;clear hK K
    refine W.ret ?_
    refine XThen.ret ?_
    refine Br rfl ?_
    rw [zhq hw.inn h1 hq]
    rfl
   try simp only[RL]at h2
   exact absurd h2 (by simp)
  skip
  have hF:PC Tryz.prog 73 [ziu (gP p) (rP p) t.rect] (.tup [.agg [.bool q.1,zax (gP p) (rP p),.int .i64 (t.one q).r,.int .i64 (t.one q).c,.int .i64 (t.one q).h,.int .i64 (t.one q).w,zax (gP p) (rP p),.int .i64 (t.two q).r,.int .i64 (t.two q).c,.int .i64 (t.two q).h,.int .i64 (t.two q).w],.bool true]) false:=by have h:=z20 hp hw.inn; simp only[zx2,hq]at h; exact h
  obtain ⟨i1,i2,a1,a2⟩:=hw.inn.cut hq
  obtain ⟨w1,w2⟩:=hw.cut (ze4 hp) hq
  simp(disch:=omega)only[↓RU,RV,RH,↓reduceIte,qE,reduceCtorEq,if_pos,qN,↓RS,RG,qA,qM,qL,ty8,zau,zcs,zh7,zbt,zaa,zct,zh8,zbu]
  refine zaf.pc (hF) rfl (.inr rfl) ?_
  simp(disch:=omega)only[↓RU,RV,RH,↓reduceIte,qE,reduceCtorEq,if_pos,qN,↓RS,RG,qA,qM,qL,ty8,zau,zcs,zh7,zbt,zaa,zct,zh8,zbu]
  apply hK;clear hK K
  refine W.seq ?_
  refine W.r fun K hK=>?_
  simp(disch:=omega)only[↓RU,RV,RH,↓reduceIte,qE,reduceCtorEq,if_pos,↓RS,RG,qA,qM,qL]
  apply hK;clear hK K
  refine W.cond rfl (fun h2=>?_) (fun h2=>?_)
  ·try simp only[RL]at h2
   exact absurd h2 (by simp)
  try simp only[RL]at h2
  refine W.skip ?_
  refine xn ?_
  refine W.r fun K hK=>?_
  obtain hx1 | ⟨x1,hx1,hx2⟩ | ⟨x1,x2,hx1,hx2⟩:=zov (zc4 (zat p) (t.one q)) (zc4 (zat p) (t.two q))
  ·skip
   have hI1:=ih (t.one q) w1 a1
   have hI2:=ih (t.two q) w2 a2
   simp only[zq9,hx1]at hI1
   obtain ⟨v2,b2,e2⟩:=z7q (enc:=(zfn)) (zero:=(.sl [] 0)) (room:=room) (cut:=cut) (zc4 (zat p) (t.two q))
   rw [e2]at hI2
   simp(disch:=omega)only[↓RU,RV,RH,↓reduceIte,qE,reduceCtorEq,if_pos,qN,↓RS,RG,qA,qM,qL,ty8,zau,zcs,zh7,zbt,zaa,zct,zh8,zbu]
   refine zaf.pc (hI1) (za0 rfl (za0 (by rw [zcr,hr9]; rfl) (za0 (by rw [zcr,hc9]; rfl) rfl))) (.inr (za0 rfl (za0 (by rw [zcr,hr9]; rfl) (za0 (by rw [zcr,hc9]; rfl) rfl)))) ?_
   simp(disch:=omega)only[↓RU,RV,RH,↓reduceIte,qE,reduceCtorEq,if_pos,qN,↓RS,RG,qA,qM,qL,ty8,zau,zcs,zh7,zbt,zaa,zct,zh8,zbu]
   apply hK;clear hK K
   refine W.r fun K hK=>?_
   simp(disch:=omega)only[↓RU,RV,RH,↓reduceIte,qE,reduceCtorEq,if_pos,qN,↓RS,RG,qA,qM,qL,ty8,zau,zcs,zh7,zbt,zaa,zct,zh8,zbu]
   refine zaf.pc (hI2) (za0 rfl (za0 (by rw [zcr,hr9]; rfl) (za0 (by rw [zcr,hc9]; rfl) rfl))) (.inr (za0 rfl (za0 (by rw [zcr,hr9]; rfl) (za0 (by rw [zcr,hc9]; rfl) rfl)))) ?_
   simp(disch:=omega)only[↓RU,RV,RH,↓reduceIte,qE,reduceCtorEq,if_pos,qN,↓RS,RG,qA,qM,qL,ty8,zau,zcs,zh7,zbt,zaa,zct,zh8,zbu]
   apply hK;clear hK K
   refine W.seq ?_
   refine W.r fun K hK=>?_
   simp(disch:=omega)only[↓RU,RV,RH,↓reduceIte,qE,reduceCtorEq,if_pos,↓RS,RG,qA,qM,qL]
   apply hK;clear hK K
   refine W.cond rfl (fun h3=>?_) (fun h3=>?_)
   ·try simp only[RL]at h3
    refine W.r fun K hK=>?_
    simp(disch:=omega)only[↓RU,RV,RH,↓reduceIte,qE,reduceCtorEq,if_pos,↓RS,RG,qA,qM,qL]
    apply hK;clear hK K
    refine W.ret ?_
    refine XThen.ret ?_
    refine Br rfl ?_
    rw [zd0 hw.inn h1 hq,hx1]
    rfl
   try simp only[RL]at h3
   exact absurd h3 (by simp)
  ·skip
   have hI1:=ih (t.one q) w1 a1
   have hI2:=ih (t.two q) w2 a2
   simp only[zq9,hx1]at hI1
   simp only[zq9,hx2]at hI2
   simp(disch:=omega)only[↓RU,RV,RH,↓reduceIte,qE,reduceCtorEq,if_pos,qN,↓RS,RG,qA,qM,qL,ty8,zau,zcs,zh7,zbt,zaa,zct,zh8,zbu]
   refine zaf.pc (hI1) (za0 rfl (za0 (by rw [zcr,hr9]; rfl) (za0 (by rw [zcr,hc9]; rfl) rfl))) (.inr (za0 rfl (za0 (by rw [zcr,hr9]; rfl) (za0 (by rw [zcr,hc9]; rfl) rfl)))) ?_
   simp(disch:=omega)only[↓RU,RV,RH,↓reduceIte,qE,reduceCtorEq,if_pos,qN,↓RS,RG,qA,qM,qL,ty8,zau,zcs,zh7,zbt,zaa,zct,zh8,zbu]
   apply hK;clear hK K
   refine W.r fun K hK=>?_
   simp(disch:=omega)only[↓RU,RV,RH,↓reduceIte,qE,reduceCtorEq,if_pos,qN,↓RS,RG,qA,qM,qL,ty8,zau,zcs,zh7,zbt,zaa,zct,zh8,zbu]
   refine zaf.pc (hI2) (za0 rfl (za0 (by rw [zcr,hr9]; rfl) (za0 (by rw [zcr,hc9]; rfl) rfl))) (.inr (za0 rfl (za0 (by rw [zcr,hr9]; rfl) (za0 (by rw [zcr,hc9]; rfl) rfl)))) ?_
   simp(disch:=omega)only[↓RU,RV,RH,↓reduceIte,qE,reduceCtorEq,if_pos,qN,↓RS,RG,qA,qM,qL,ty8,zau,zcs,zh7,zbt,zaa,zct,zh8,zbu]
   apply hK;clear hK K
   refine W.seq ?_
   refine W.r fun K hK=>?_
   simp(disch:=omega)only[↓RU,RV,RH,↓reduceIte,qE,reduceCtorEq,if_pos,↓RS,RG,qA,qM,qL]
   apply hK;clear hK K
   refine W.cond rfl (fun h3=>?_) (fun h3=>?_)
   ·try simp only[RL]at h3
    refine W.r fun K hK=>?_
    simp(disch:=omega)only[↓RU,RV,RH,↓reduceIte,qE,reduceCtorEq,if_pos,↓RS,RG,qA,qM,qL]
    apply hK;clear hK K
    refine W.ret ?_
    refine XThen.ret ?_
    refine Br rfl ?_
    rw [zd0 hw.inn h1 hq,hx1,hx2]
    rfl
   try simp only[RL]at h3
   exact absurd h3 (by simp)
  skip
  have hI1:=ih (t.one q) w1 a1
  have hI2:=ih (t.two q) w2 a2
  simp only[zq9,hx1]at hI1
  simp only[zq9,hx2]at hI2
  simp(disch:=omega)only[↓RU,RV,RH,↓reduceIte,qE,reduceCtorEq,if_pos,qN,↓RS,RG,qA,qM,qL,ty8,zau,zcs,zh7,zbt,zaa,zct,zh8,zbu]
  refine zaf.pc (hI1) (za0 rfl (za0 (by rw [zcr,hr9]; rfl) (za0 (by rw [zcr,hc9]; rfl) rfl))) (.inr (za0 rfl (za0 (by rw [zcr,hr9]; rfl) (za0 (by rw [zcr,hc9]; rfl) rfl)))) ?_
  simp(disch:=omega)only[↓RU,RV,RH,↓reduceIte,qE,reduceCtorEq,if_pos,qN,↓RS,RG,qA,qM,qL,ty8,zau,zcs,zh7,zbt,zaa,zct,zh8,zbu]
  apply hK;clear hK K
  refine W.r fun K hK=>?_
  simp(disch:=omega)only[↓RU,RV,RH,↓reduceIte,qE,reduceCtorEq,if_pos,qN,↓RS,RG,qA,qM,qL,ty8,zau,zcs,zh7,zbt,zaa,zct,zh8,zbu]
  refine zaf.pc (hI2) (za0 rfl (za0 (by rw [zcr,hr9]; rfl) (za0 (by rw [zcr,hc9]; rfl) rfl))) (.inr (za0 rfl (za0 (by rw [zcr,hr9]; rfl) (za0 (by rw [zcr,hc9]; rfl) rfl)))) ?_
  simp(disch:=omega)only[↓RU,RV,RH,↓reduceIte,qE,reduceCtorEq,if_pos,qN,↓RS,RG,qA,qM,qL,ty8,zau,zcs,zh7,zbt,zaa,zct,zh8,zbu]
  apply hK;clear hK K
  refine W.seq ?_
  refine W.r fun K hK=>?_
  simp(disch:=omega)only[↓RU,RV,RH,↓reduceIte,qE,reduceCtorEq,if_pos,↓RS,RG,qA,qM,qL]
  apply hK;clear hK K
  refine W.cond rfl (fun h3=>?_) (fun h3=>?_)
  ·try simp only[RL]at h3
   exact absurd h3 (by simp)
  try simp only[RL]at h3
  refine W.skip ?_
  refine xn ?_
  refine W.r fun K hK=>?_
  simp(disch:=omega)only[↓RU,RV,RH,↓reduceIte,qE,reduceCtorEq,if_pos,qN,↓RS,RG,qA,qM,qL,ty8,zau,zcs,zh7,zbt,zaa,zct,zh8,zbu]
  refine zaf.pc (hcut t q x1 x2 hw hq hx1 hx2) (za0 rfl (za0 rfl (za0 rfl (hc10 _)))) (.inr (za0 rfl (za0 rfl (za0 rfl (hc10 _))))) ?_
  simp(disch:=omega)only[↓RU,RV,RH,↓reduceIte,qE,reduceCtorEq,if_pos,qN,↓RS,RG,qA,qM,qL,ty8,zau,zcs,zh7,zbt,zaa,zct,zh8,zbu]
  apply hK;clear hK K
  refine W.ret ?_
  refine Br rfl ?_
  rw [zd0 hw.inn h1 hq,hx1,hx2]
  rfl
 skip
 have hL:PC Tryz.prog 72 [ziu (gP p) (rP p) t.rect] (.sl [.int .i64 (zat p t.r t.c)] 1) true:=by have h:=z8p (gP p) (by omega) hfit (z3z hp hw.inn); rw [ygg hp hw h1]at h; exact h
 have hv:=zen hp (i:=t.r) (j:=t.c) (by omega) (by omega)
 simp(disch:=omega)only[↓RU,RV,RH,↓reduceIte,qE,reduceCtorEq,if_pos,qN,↓RS,RG,qA,qM,qL,ty8,zcs,zbt,zaa,zct,zbu]
 refine zaf.pc (hL) rfl (.inl rfl) ?_
 simp(disch:=omega)only[↓RU,RV,RH,↓reduceIte,qE,reduceCtorEq,if_pos,qN,↓RS,RG,qA,qM,qL,ty8,zcs,zbt,zaa,zct,zbu]
 apply hK;clear hK K
 refine W.r fun K hK=>?_
 simp(disch:=omega)only[↓RU,RV,RH,↓reduceIte,qE,reduceCtorEq,if_pos,w64,↓RS,RG,qA,qM,qL,zab,zaa]
 apply hK;clear hK K
 refine W.cond rfl (fun h0=>?_) (fun h0=>?_)
 ·try simp only[RL]at h0
  refine W.r fun K hK=>?_
  simp(disch:=omega)only[↓RU,RV,RH,↓reduceIte,qE,reduceCtorEq,if_pos,qN,↓RS,RG,qA,qM,qL,zab,zaa,Int.toNat_zero,Nat.zero_mul,qZ,List.getElem?_cons_zero]
  refine zaf.pc (hroom _ hv.1 hv.2) (za0 rfl (hr10 _)) (.inr (za0 rfl (hr10 _))) ?_
  simp(disch:=omega)only[↓RU,RV,RH,↓reduceIte,qE,reduceCtorEq,if_pos,qN,↓RS,RG,qA,qM,qL,zab,zaa,Int.toNat_zero,Nat.zero_mul,qZ,List.getElem?_cons_zero]
  apply hK;clear hK K
  refine W.ret ?_
  refine XThen.ret ?_
  refine Br rfl ?_
  rw [zgy hw.inn h1]
  rfl
 try simp only[RL]at h0
 exact absurd h0 (by simp)
theorem zj4 {p:List Txt} (hp:zcc p=true) {rf cf:FuncId} {rc cc:List PV} (hr9:∀ S,rc.mapM (reify S true 9)=some rc) (hr10:∀ S,rc.mapM (reify S true 10)=some rc) (hc9:∀ S,cc.mapM (reify S true 9)=some cc) (hc10:∀ S,cc.mapM (reify S true 10)=some cc)
  {room:Int→List Shp} {cut:Bool→List Shp→List Shp→List Shp} (hroom:∀ a:Int,0≤a→a<(rP p).length→PC Tryz.prog rf (.int .i64 a::rc) ((zfn) (room a)) false)
  (hcut:∀ (t:Pt) q x y,Whole (zat p) p.length (za1 p).length t→zd4 (zat p) t=some q→zc4 (zat p) (t.one q)=some x→zc4 (zat p) (t.two q)=some y→PC Tryz.prog cf (z2r (gP p) (rP p) t q::(zfn) (x.fold room cut)::(zfn) (y.fold room cut)::cc) ((zfn) (cut q.1 (x.fold room cut) (y.fold room cut))) false):∀ (n:Nat) {t:Pt},t.h*t.w≤n→Whole (zat p) p.length (za1 p).length t→PC Tryz.prog 60 [ziu (gP p) (rP p) t.rect,.fn rf rc,.fn cf cc] (zq9 (zfn) (.sl [] 0) room cut (zc4 (zat p) t)) false
 | 0,t,hn,hw=>by have:=Nat.mul_pos hw.inn.1 hw.inn.2.1; omega
 | n+1,t,hn,hw=>zx3 hp hr9 hr10 hc9 hc10 hroom hcut hw fun t' hw' ha=>zj4 hp hr9 hr10 hc9 hc10 hroom hcut n (by omega) hw'
theorem zwm {p:List Txt} (hs:Sm p) {ws ht:List Int} (hw:ws.length≤1048576) (hh:ht.length≤1048576) (hv:zde p ws ht=false):PC Tryz.prog 20 [zbc p,eInts ws,eInts ht] (.tup [.sl [] 0,.bool false]) false:=by
 refine PC.of ⟨Tryz.func20,by kernel_rfl,rfl,by kernel_rfl⟩ zbl mixed (by show 3≤Tryz.f20.ntmps; decide) ?_
 refine W.r fun K hK=>?_
 simp(disch:=omega)only[↓RU,RV,RH,↓reduceIte,qE,reduceCtorEq,if_pos,↓RS,RG,qA,qM,qL,zab,zaa]
 apply hK;clear hK K
 refine W.r fun K hK=>?_
 cases hnv:zdp p [ws,ht]
 ·skip
  have hSh:=zk7 hs hw hh
  rw [hv,hnv]at hSh
  simp only[qF,if_false]at hSh
  simp(disch:=omega)only[↓RU,RV,RH,↓reduceIte,qE,reduceCtorEq,if_pos,qN,↓RS,RG,qA,qM,qL,zab,zaa]
  refine zaf.pc (hSh) rfl (.inr rfl) ?_
  simp(disch:=omega)only[↓RU,RV,RH,↓reduceIte,qE,reduceCtorEq,if_pos,qN,↓RS,RG,qA,qM,qL,zab,zaa]
  apply hK;clear hK K
  refine W.seq ?_
  refine W.r fun K hK=>?_
  simp(disch:=omega)only[↓RU,RV,RH,↓reduceIte,qE,reduceCtorEq,if_pos,↓RS,RG,qA,qM,qL]
  apply hK;clear hK K
  refine W.cond rfl (fun h0=>?_) (fun h0=>?_)
  ·try simp only[RL]at h0
   refine W.r fun K hK=>?_
   simp(disch:=omega)only[↓RU,RV,RH,↓reduceIte,qE,reduceCtorEq,if_pos,↓RS,RG,qA,qM,qL]
   apply hK;clear hK K
   refine W.ret ?_
   refine XThen.ret ?_
   refine Br rfl ?_
   rfl
  try simp only[RL]at h0
  exact absurd h0 (by simp)
 skip
 have hSh:=zk7 hs hw hh
 rw [hv,hnv]at hSh
 simp only[if_true]at hSh
 simp(disch:=omega)only[↓RU,RV,RH,↓reduceIte,qE,reduceCtorEq,if_pos,qN,↓RS,RG,qA,qM,qL,zab,zaa]
 refine zaf.pc (hSh) rfl (.inr rfl) ?_
 simp(disch:=omega)only[↓RU,RV,RH,↓reduceIte,qE,reduceCtorEq,if_pos,qN,↓RS,RG,qA,qM,qL,zab,zaa]
 apply hK;clear hK K
 refine W.seq ?_
 refine W.r fun K hK=>?_
 simp(disch:=omega)only[↓RU,RV,RH,↓reduceIte,qE,reduceCtorEq,if_pos,↓RS,RG,qA,qM,qL]
 apply hK;clear hK K
 refine W.cond rfl (fun h0=>?_) (fun h0=>?_)
 ·try simp only[RL]at h0
  refine W.r fun K hK=>?_
  simp(disch:=omega)only[↓RU,RV,RH,↓reduceIte,qE,reduceCtorEq,if_pos,↓RS,RG,qA,qM,qL]
  apply hK;clear hK K
  refine W.ret ?_
  refine XThen.ret ?_
  refine Br rfl ?_
  rfl
 try simp only[RL]at h0
 exact absurd h0 (by simp)
theorem zwn {p:List Txt} (hs:Sm p) {ws ht:List Int} (hw:ws.length≤1048576) (hh:ht.length≤1048576) (hg:zde p ws ht=true) (ht0:(zc4 (zat p) (zh6 p))=none):PC Tryz.prog 20 [zbc p,eInts ws,eInts ht] (.tup [.sl [] 0,.bool false]) false:=by
 obtain ⟨hp,g2,g3,g4,g5,hnv⟩:=zf5 hg
 have hSh:=zk7 hs hw hh
 rw [hg,hnv,if_pos rfl]at hSh
 have hF:PC Tryz.prog 60 [ziu (gP p) (rP p) (zh6 p).rect,.fn 58 [.ip [eInts ws] 0,.ip [eInts ht] 0],.fn 61 []] (.tup [.sl [] 0,.bool false]) false:=by
  have h:PC Tryz.prog 60 [ziu (gP p) (rP p) (zh6 p).rect,.fn 58 [.ip [eInts ws] 0,.ip [eInts ht] 0],.fn 61 []] (zq9 zfn (.sl [] 0) (ybi ws ht) yif (zc4 (zat p) (zh6 p))) false:=by
   refine zj4 hp (rf:=58) (cf:=61) (rc:=[.ip [eInts ws] 0,.ip [eInts ht] 0]) (cc:=[]) (fun _=>rfl) (fun _=>rfl) (fun _=>rfl) (fun _=>rfl) (room:=ybi ws ht) (cut:=yif) (fun a h1 h2=>?_) (fun t q x y hw hq hx hy=>?_) _ (qR _) (zg0 hp)
   ·obtain ⟨x,hx,-⟩:=zah (show a.toNat<ws.length by omega)
    obtain ⟨y,hy,-⟩:=zah (show a.toNat<ht.length by omega)
    have:=(znv h1 hx hy).old
    rw [show ybi ws ht a=pareto [(x,y),(y,x)] by unfold ybi; rw [zf4 hx,zf4 hy]]
    exact this
   obtain ⟨w1,w2⟩:=hw.cut (ze4 hp) hq
   have b1:=ze8 hp g2 g3 g4 g5 w1 hx
   have b2:=ze8 hp g2 g3 g4 g5 w2 hy
   exact (znw (lv:=q.1) b1.1 b2.1 (by have:=b1.2.1; omega) (by have:=b2.2.1; omega) b1.2.2 b2.2.2).old
  rw [ht0]at h
  exact h
 refine PC.of ⟨Tryz.func20,by kernel_rfl,rfl,by kernel_rfl⟩ zbl mixed (by show 3≤Tryz.f20.ntmps; decide) ?_
 refine W.r fun K hK=>?_
 simp(disch:=omega)only[↓RU,RV,RH,↓reduceIte,qE,reduceCtorEq,if_pos,↓RS,RG,qA,qM,qL,zab,zaa]
 apply hK;clear hK K
 refine W.r fun K hK=>?_
 simp(disch:=omega)only[↓RU,RV,RH,↓reduceIte,qE,reduceCtorEq,if_pos,qN,↓RS,RG,qA,qM,qL,zab,zaa]
 refine zaf.pc (hSh) rfl (.inr rfl) ?_
 simp(disch:=omega)only[↓RU,RV,RH,↓reduceIte,qE,reduceCtorEq,if_pos,qN,↓RS,RG,qA,qM,qL,zab,zaa]
 apply hK;clear hK K
 refine W.seq ?_
 refine W.r fun K hK=>?_
 simp(disch:=omega)only[↓RU,RV,RH,↓reduceIte,qE,reduceCtorEq,if_pos,↓RS,RG,qA,qM,qL]
 apply hK;clear hK K
 refine W.cond rfl (fun h0=>?_) (fun h0=>?_)
 ·try simp only[RL]at h0
  exact absurd h0 (by simp)
 try simp only[RL]at h0
 refine W.skip ?_
 refine xn ?_
 refine W.joinZ [8,10] (fun vs S=>∃ tk:Nat,vs=[zax (gP p) (rP p),.fn 58 [.ip [eInts ws] 0,.ip [eInts ht] 0]]∧S=⟨[],tk⟩) ?_ ?_
 ·
  refine W.k fun K hK=>?_
  simp(disch:=omega)only[↓RU,RV,RH,↓reduceIte,qE,reduceCtorEq,if_pos,↓RS,RG,qA,qM,qL]
  apply hK;clear hK K
  refine xn ?_
  refine ⟨0,[zax (gP p) (rP p),.fn 58 [.ip [eInts ws] 0,.ip [eInts ht] 0]],⟨[],2⟩,?_,?_,2,rfl,rfl⟩
  ·simp [-qU,Store.frz,zb5,zci,zav,zbo,zbr,zbn,zb8,zbe,zbh,zbf,zay,zaz,zbs,zbg,zbp,zbd,Env.put,Env.of,zad,zbq,qP,qC,frz,rfz,Store.cellsOf,zax,eInts]
  simp [-qU,Store.frz,zb5,zci,zav,zbo,zbr,zbn,zb8,zbe,zbh,zbf,zay,zaz,zbs,zbg,zbp,zbd,Env.put,Env.of,zad,zbq,qP,qC]
 rintro vs S - ⟨tk,rfl,rfl⟩
 refine W.r fun K hK=>?_
 simp(disch:=omega)only[↓RU,RV,RH,↓reduceIte,qE,reduceCtorEq,if_pos,qN,↓RS,RG,qA,qM,qL]
 refine zaf.pc (z0a hp) rfl (.inr rfl) ?_
 simp(disch:=omega)only[↓RU,RV,RH,↓reduceIte,qE,reduceCtorEq,if_pos,qN,↓RS,RG,qA,qM,qL]
 refine zaf.pc (hF) rfl (.inr rfl) ?_
 simp(disch:=omega)only[↓RU,RV,RH,↓reduceIte,qE,reduceCtorEq,if_pos,qN,↓RS,RG,qA,qM,qL]
 apply hK;clear hK K
 refine W.r fun K hK=>?_
 simp(disch:=omega)only[↓RU,RV,RH,↓reduceIte,qE,reduceCtorEq,if_pos,qN,↓RS,RG,qA,qM,qL]
 refine zaf.pc (zt2) rfl (.inl rfl) ?_
 simp(disch:=omega)only[↓RU,RV,RH,↓reduceIte,qE,reduceCtorEq,if_pos,qN,↓RS,RG,qA,qM,qL]
 apply hK;clear hK K
 refine W.ret ?_
 refine Br rfl ?_
 rfl
theorem z5n {l:List Shp} (hl:l.length≤1048576) {t:Nat}:Ev Tryz.prog 62 [zfn l] ⟨[],t⟩ fun v S=>∃ v2 t2:Nat,v=slR (zcv l) v2∧S=stR (zcv l) v2 t2:=by
 refine Ev.of ⟨Tryz.func62,by kernel_rfl,rfl,by kernel_rfl⟩ zbl mixed (by show 1≤Tryz.f62.ntmps; decide) ?_
 refine W.r fun K hK=>?_
 simp(disch:=omega)only[↓RU,RV,RH,↓reduceIte,qE,reduceCtorEq,if_pos,↓RS,RG,qA,qM,qL]
 apply hK;clear hK K
 refine W.r fun K hK=>?_
 simp(disch:=omega)only[↓RU,RV,RH,↓reduceIte,qE,reduceCtorEq,if_pos,↓RS,RG,qA,qM,qL]
 apply hK;clear hK K
 refine W.seq ?_
 refine W.r fun K hK=>?_
 simp(disch:=omega)only[↓RU,RV,RH,↓reduceIte,qE,reduceCtorEq,if_pos,↓RS,RG,qA,qM,qL,ty4,zfx,zaa,zfy]
 apply hK;clear hK K
 refine W.block ?_
 refine W.loopS [3,6,7,8] (fun n vs S=>∃ (i v t:Nat),n=l.length - i∧i≤l.length∧vs=[slR (zcv (l.take i)) v,zfn l,.int .i64 l.length,.int .i64 i]∧S=stR (zcv (l.take i)) v t) l.length ?_ ?_
 ·refine ⟨0,[],[.nils,zfn l,.int .i64 l.length,.int .i64 (0:Nat)],⟨[],t+1⟩,?_,?_,0,0,t+1,rfl,Nat.zero_le _,rfl,rfl⟩
  ·simp [-qU,Env.put,Env.of,zad,za3,zac,zae,zai,zak,za8,za9,zbz,za7,zaq,zba,zby,zb0,zas,zar,zal,za6,zbb,zbx,zao,zan,zaj,zap,za5,zc5,qS,qP,qC,z96,zcw,zlr]
  simp [-qU,Env.put,Env.of,zad,za3,zac,zae,zai,zak,za8,za9,zbz,za7,zaq,zba,zby,zb0,zas,zar,zal,za6,zbb,zbx,zao,zan,zaj,zap,za5,zc5,qS,qP,qC]
 rintro n vs S - ⟨i,v,t,rfl,h_i,rfl,rfl⟩
 refine W.r fun K hK=>?_
 simp(disch:=omega)only[↓RU,RV,RH,↓reduceIte,qE,reduceCtorEq,if_pos,w64,↓RS,RG,qA,qM,qL,zaa]
 apply hK;clear hK K
 refine W.seq ?_
 refine W.cond rfl (fun h1=>?_) (fun h1=>?_)
 ·try simp only[RL]at h1
  obtain ⟨x,hx,-⟩:=zah (show i<l.length by omega)
  have hrl:(zcv (l.take i)).length=i:=by rw [zdq,List.length_take]; omega
  have hrs:=zsi hx
  have hpx:((scs l).drop (i*2)).take 2=[.int .i64 x.1,.int .i64 x.2]:=zuq hx
  refine W.skip ?_
  refine xn ?_
  refine W.seq ?_
  refine W.block ?_
  refine W.r fun K hK=>?_
  by_cases hi0:i=0
  ·skip
   subst hi0
   have hr0:zcv (l.take 0)=[]:=rfl
   rw [hr0,yar,yat]
   have hpx:(scs l).take 2=[.int .i64 x.1,.int .i64 x.2]:=by simpa using hpx
   simp(disch:=omega)only[↓RU,RV,RH,↓reduceIte,qE,reduceCtorEq,if_pos,↓RS,RG,qA,qM,qL,ty4,zfx,zaa,zfy,hpx,zcw]
   apply hK;clear hK K
   refine W.k fun K hK=>?_
   simp(disch:=omega)only[↓RU,RV,RH,↓reduceIte,qE,reduceCtorEq,if_pos,↓RS,RG,qA,qM,qL,ty1,zab,zfx,zaa,zfy,hrl,List.length_append,List.map_append,List.map_cons,List.map_nil]
   apply hK;clear hK K
   refine XbN ?_
   refine xn ?_
   refine W.k fun K hK=>?_
   simp(disch:=omega)only[↓RU,RV,RH,↓reduceIte,qE,reduceCtorEq,if_pos,w64,↓RS,RG,qA,qM,qL,zaa]
   apply hK;clear hK K
   refine xn ?_
   rw [hr0,List.nil_append]at hrs
   refine ⟨l.length - (0+1),by omega,0,[3],[.loc 0 (t+4) 0 1,zfn l,.int .i64 l.length,.int .i64 ((0+1:Nat):Int)],⟨[.arr (t+4) 24 1 [eInts [x.1,x.2]]],t+5⟩,?_,?_,1,t+4,t+5,rfl,by omega,by rw [hrs]; rfl,by rw [hrs]; rfl⟩
   ·simp [-qU,Env.put,Env.of,zad,za3,zac,zae,zai,zak,za8,za9,zbz,za7,zaq,zba,zby,zb0,zas,zar,zal,za6,zbb,zbx,zao,zan,zaj,zap,za5,zc5,qS,qP,qC]
   simp [-qU,Env.put,Env.of,zad,za3,zac,zae,zai,zak,za8,za9,zbz,za7,zaq,zba,zby,zb0,zas,zar,zal,za6,zbb,zbx,zao,zan,zaj,zap,za5,zc5,qS,qP,qC,znj]
  skip
  have hne:zcv (l.take i)≠[]:=fun e=>hi0 (by rw [e]at hrl; simpa using hrl.symm)
  rw [zzz hne,zz3 hne,hrl]
  simp(disch:=omega)only[↓RU,RV,RH,↓reduceIte,qE,reduceCtorEq,if_pos,↓RS,RG,qA,qM,qL,ty4,zfx,zaa,zfy,hpx,zcw]
  apply hK;clear hK K
  refine W.k fun K hK=>?_
  simp(disch:=omega)only[↓RU,RV,RH,↓reduceIte,qE,reduceCtorEq,if_pos,↓RS,RG,qA,qM,qL,ty1,zab,zfx,zaa,zfy,hrl,List.length_append,List.map_append,List.map_cons,List.map_nil]
  apply hK;clear hK K
  refine XbN ?_
  refine xn ?_
  refine W.k fun K hK=>?_
  simp(disch:=omega)only[↓RU,RV,RH,↓reduceIte,qE,reduceCtorEq,if_pos,w64,↓RS,RG,qA,qM,qL,zaa]
  apply hK;clear hK K
  refine xn ?_
  have hne2:zcv (l.take (i+1))≠[]:=by rw [hrs]; simp
  refine ⟨l.length - (i+1),by omega,1,[],[.loc 0 (t+3) 0 (i+1),zfn l,.int .i64 l.length,.int .i64 ((i+1:Nat):Int)],⟨[.arr (t+3) 24 1 ((zcv (l.take i)).map eInts++[eInts [x.1,x.2]])],t+5⟩,?_,?_,i+1,t+3,t+5,rfl,by omega,by rw [zzz hne2,hrs]; simp [hrl],by rw [zz3 hne2,hrs]; simp⟩
  ·simp [-qU,Env.put,Env.of,zad,za3,zac,zae,zai,zak,za8,za9,zbz,za7,zaq,zba,zby,zb0,zas,zar,zal,za6,zbb,zbx,zao,zan,zaj,zap,za5,zc5,qS,qP,qC]
  simp [-qU,Env.put,Env.of,zad,za3,zac,zae,zai,zak,za8,za9,zbz,za7,zaq,zba,zby,zb0,zas,zar,zal,za6,zbb,zbx,zao,zan,zaj,zap,za5,zc5,qS,qP,qC,znj]
 try simp only[RL]at h1
 obtain rfl:i=l.length:=by omega
 refine W.exit ?_
 refine xe ?_
 refine xe ?_
 refine XBlock.hit ?_
 refine xn ?_
 refine W.r fun K hK=>?_
 simp(disch:=omega)only[↓RU,RV,RH,↓reduceIte,qE,reduceCtorEq,if_pos,↓RS,RG,qA,qM,qL]
 apply hK;clear hK K
 refine W.ret ?_
 refine Br rfl ?_
 rw [List.take_length]
 exact ⟨_,_,_,rfl,za2⟩
theorem zwo {p:List Txt} (hs:Sm p) {ws ht:List Int} (hw:ws.length≤1048576) (hh:ht.length≤1048576) {x:CT} (hg:zde p ws ht=true) (hx0:(zc4 (zat p) (zh6 p))=some x):PC Tryz.prog 20 [zbc p,eInts ws,eInts ht] (.tup [zel (ziq ws ht x),.bool true]) false:=by
 obtain ⟨hp,g2,g3,g4,g5,hnv⟩:=zf5 hg
 have hSh:=zk7 hs hw hh
 rw [hg,hnv,if_pos rfl]at hSh
 have hF:PC Tryz.prog 60 [ziu (gP p) (rP p) (zh6 p).rect,.fn 58 [.ip [eInts ws] 0,.ip [eInts ht] 0],.fn 61 []] (.tup [zfn (ziq ws ht x),.bool true]) false:=by
  have h:PC Tryz.prog 60 [ziu (gP p) (rP p) (zh6 p).rect,.fn 58 [.ip [eInts ws] 0,.ip [eInts ht] 0],.fn 61 []] (zq9 zfn (.sl [] 0) (ybi ws ht) yif (zc4 (zat p) (zh6 p))) false:=by
   refine zj4 hp (rf:=58) (cf:=61) (rc:=[.ip [eInts ws] 0,.ip [eInts ht] 0]) (cc:=[]) (fun _=>rfl) (fun _=>rfl) (fun _=>rfl) (fun _=>rfl) (room:=ybi ws ht) (cut:=yif) (fun a h1 h2=>?_) (fun t q x y hw hq hx hy=>?_) _ (qR _) (zg0 hp)
   ·obtain ⟨x,hx,-⟩:=zah (show a.toNat<ws.length by omega)
    obtain ⟨y,hy,-⟩:=zah (show a.toNat<ht.length by omega)
    have:=(znv h1 hx hy).old
    rw [show ybi ws ht a=pareto [(x,y),(y,x)] by unfold ybi; rw [zf4 hx,zf4 hy]]
    exact this
   obtain ⟨w1,w2⟩:=hw.cut (ze4 hp) hq
   have b1:=ze8 hp g2 g3 g4 g5 w1 hx
   have b2:=ze8 hp g2 g3 g4 g5 w2 hy
   exact (znw (lv:=q.1) b1.1 b2.1 (by have:=b1.2.1; omega) (by have:=b2.2.1; omega) b1.2.2 b2.2.2).old
  rw [hx0]at h
  exact h
 have hXf:=ze8 hp g2 g3 g4 g5 (zg0 hp) hx0
 generalize hXX:(ziq ws ht x)=X at hF hXf ⊢
 refine PC.of ⟨Tryz.func20,by kernel_rfl,rfl,by kernel_rfl⟩ zbl mixed (by show 3≤Tryz.f20.ntmps; decide) ?_
 refine W.r fun K hK=>?_
 simp(disch:=omega)only[↓RU,RV,RH,↓reduceIte,qE,reduceCtorEq,if_pos,↓RS,RG,qA,qM,qL,zab,zaa]
 apply hK;clear hK K
 refine W.r fun K hK=>?_
 simp(disch:=omega)only[↓RU,RV,RH,↓reduceIte,qE,reduceCtorEq,if_pos,qN,↓RS,RG,qA,qM,qL,zab,zaa]
 refine zaf.pc (hSh) rfl (.inr rfl) ?_
 simp(disch:=omega)only[↓RU,RV,RH,↓reduceIte,qE,reduceCtorEq,if_pos,qN,↓RS,RG,qA,qM,qL,zab,zaa]
 apply hK;clear hK K
 refine W.seq ?_
 refine W.r fun K hK=>?_
 simp(disch:=omega)only[↓RU,RV,RH,↓reduceIte,qE,reduceCtorEq,if_pos,↓RS,RG,qA,qM,qL]
 apply hK;clear hK K
 refine W.cond rfl (fun h0=>?_) (fun h0=>?_)
 ·try simp only[RL]at h0
  exact absurd h0 (by simp)
 try simp only[RL]at h0
 refine W.skip ?_
 refine xn ?_
 refine W.joinZ [8,10] (fun vs S=>∃ tk:Nat,vs=[zax (gP p) (rP p),.fn 58 [.ip [eInts ws] 0,.ip [eInts ht] 0]]∧S=⟨[],tk⟩) ?_ ?_
 ·
  refine W.k fun K hK=>?_
  simp(disch:=omega)only[↓RU,RV,RH,↓reduceIte,qE,reduceCtorEq,if_pos,↓RS,RG,qA,qM,qL]
  apply hK;clear hK K
  refine xn ?_
  refine ⟨0,[zax (gP p) (rP p),.fn 58 [.ip [eInts ws] 0,.ip [eInts ht] 0]],⟨[],2⟩,?_,?_,2,rfl,rfl⟩
  ·simp [-qU,Store.frz,zb5,zci,zav,zbo,zbr,zbn,zb8,zbe,zbh,zbf,zay,zaz,zbs,zbg,zbp,zbd,Env.put,Env.of,zad,zbq,qP,qC,frz,rfz,Store.cellsOf,zax,eInts]
  simp [-qU,Store.frz,zb5,zci,zav,zbo,zbr,zbn,zb8,zbe,zbh,zbf,zay,zaz,zbs,zbg,zbp,zbd,Env.put,Env.of,zad,zbq,qP,qC]
 rintro vs S - ⟨tk,rfl,rfl⟩
 refine W.r fun K hK=>?_
 simp(disch:=omega)only[↓RU,RV,RH,↓reduceIte,qE,reduceCtorEq,if_pos,qN,↓RS,RG,qA,qM,qL]
 refine zaf.pc (z0a hp) rfl (.inr rfl) ?_
 simp(disch:=omega)only[↓RU,RV,RH,↓reduceIte,qE,reduceCtorEq,if_pos,qN,↓RS,RG,qA,qM,qL]
 refine zaf.pc (hF) rfl (.inr rfl) ?_
 simp(disch:=omega)only[↓RU,RV,RH,↓reduceIte,qE,reduceCtorEq,if_pos,qN,↓RS,RG,qA,qM,qL]
 apply hK;clear hK K
 refine W.r fun K hK=>?_
 simp(disch:=omega)only[↓RU,RV,RH,↓reduceIte,qE,reduceCtorEq,if_pos,qN,↓RS,RG,qA,qM,qL]
 refine zaf.ev (z5n (l:=X) (by omega)) ?_
 rintro _ _ ⟨v3,t3,rfl,rfl⟩
 simp(disch:=omega)only[↓RU,RV,RH,↓reduceIte,qE,reduceCtorEq,if_pos,qN,↓RS,RG,qA,qM,qL]
 apply hK;clear hK K
 refine W.ret ?_
 refine Br rfl ?_
 exact zho (k:=9) (zzf.trans (by rw [ze1,zdq])) rfl


theorem z8i {p:List Txt} (hp:zcc p=true) {ws ht:List Int} (hnw:zd9 ws) (hnh:zd9 ht) (hlw:ws.length=(rP p).length) (hlh:ht.length=(rP p).length) {t:Pt} (hw:Whole (zat p) p.length (za1 p).length t) {x:CT} (hx:zc4 (zat p) t=some x) (ih:∀ (t':Pt) (x':CT),Whole (zat p) p.length (za1 p).length t'→t'.h*t'.w<t.h*t.w→zc4 (zat p) t'=some x'→PC Tryz.prog 56 [zbc (sub p t'),eInts ws,eInts ht] (zel (ziq ws ht x')) false):PC Tryz.prog 56 [zbc (sub p t),eInts ws,eInts ht] (zel (ziq ws ht x)) false:=by
 have hg:=zed hp
 have hi:=hw.inn
 have hsmg:=zb3 hg
 have hg2:=z4p hg hi
 have hs2:=Sm.grid hg2
 have hl2:=zmb hi
 have hh2:=zux hg hi
 have hib:=hi
 unfold Pt.In at hib
 obtain ⟨row0,hrow0,hq0,hl0,-⟩:=zkm hg hi (i:=0) hi.1
 obtain ⟨c0,hc0,hlet⟩:=zkv hg hrow0 (k:=t.c+0) (by omega)
 have hqc:=(zh4 (row:=row0) (t:=t) hib.2.1).trans hc0
 have hz0:zat p t.r t.c=(c0.toNat:Int) - 97:=zdd (by simpa using hrow0) (by simpa using hc0)
 simp only[zdj,qB,decide_eq_true_eq]at hlet
 have hcq:=z2m hg hi
 refine PC.of ⟨Tryz.func56,by kernel_rfl,rfl,by kernel_rfl⟩ zbl mixed (by show 3≤Tryz.f56.ntmps; decide) ?_
 refine W.r fun K hK=>?_
 simp(disch:=omega)only[↓RU,RV,RH,↓reduceIte,qE,reduceCtorEq,if_pos,↓RS,RG,qA,qM,qL]
 apply hK;clear hK K
 refine W.joinZ [0,1,2,7] (fun vs S=>∃ tk:Nat,vs=[zbc (sub p t),eInts ws,eInts ht,zel []]∧S=⟨[],tk⟩) ?_ ?_
 ·
  refine W.k fun K hK=>?_
  simp(disch:=omega)only[↓RU,RV,RH,↓reduceIte,qE,reduceCtorEq,if_pos,↓RS,RG,qA,qM,qL,ty1,zab,zaa]
  apply hK;clear hK K
  refine xn ?_
  refine ⟨0,[zbc (sub p t),eInts ws,eInts ht,zel []],⟨[],1⟩,?_,?_,1,rfl,rfl⟩
  ·simp [-qU,Store.frz,zb5,zci,zav,zbo,zbr,zbn,zb8,zbe,zbh,zbf,zay,zaz,zbs,zbg,zbp,zbd,Env.put,Env.of,zad,zbq,qP,qC,zcv]
  simp [-qU,Store.frz,zb5,zci,zav,zbo,zbr,zbn,zb8,zbe,zbh,zbf,zay,zaz,zbs,zbg,zbp,zbd,Env.put,Env.of,zad,zbq,qP,qC]
 rintro vs S - ⟨tk,rfl,rfl⟩
 refine W.seq ?_
 refine W.r fun K hK=>?_
 simp(disch:=omega)only[↓RU,RV,RH,↓reduceIte,qE,reduceCtorEq,if_pos,qN,↓RS,RG,qA,qM,qL]
 refine zaf.pc (z29 hs2 hg2) rfl (.inl rfl) ?_
 simp(disch:=omega)only[↓RU,RV,RH,↓reduceIte,qE,reduceCtorEq,if_pos,qN,↓RS,RG,qA,qM,qL]
 apply hK;clear hK K
 refine W.cond rfl (fun h0=>?_) (fun h0=>?_)
 ·skip
  have h0:ybh (sub p t)=true:=h0
  rw [zp8 hg hi]at h0
  rw [zgy hi h0]at hx
  cases hx
  have hv:=zen hp (i:=t.r) (j:=t.c) (by omega) (by omega)
  rw [hz0]at hv
  obtain ⟨x,hyx,-⟩:=zah (show ((c0.toNat:Int) - 97).toNat<ws.length by omega)
  obtain ⟨y,hyy,-⟩:=zah (show ((c0.toNat:Int) - 97).toNat<ht.length by omega)
  refine W.r fun K hK=>?_
  simp(disch:=omega)only[↓RU,RV,RH,↓reduceIte,qE,reduceCtorEq,if_pos,w64,w64,↓RS,RG,qA,qM,qL,ty6,zaa,zag,zfz,hq0,hqc,Int.toNat_zero,Nat.zero_mul,qZ]
  apply hK;clear hK K
  refine W.seq_draw (by kernel_rfl) fun K hK=>?_
  simp(disch:=omega)only[↓RU,RV,RH,↓reduceIte,qE,reduceCtorEq,if_pos,qN,↓RS,RG,qA,qM,qL,zab,zaa,hyx,hyy]
  refine zaf.pc (zp6 (l:=[]) (by simp) _ _) rfl (.inr rfl) ?_
  simp(disch:=omega)only[↓RU,RV,RH,↓reduceIte,qE,reduceCtorEq,if_pos,qN,↓RS,RG,qA,qM,qL,zab,zaa,hyx,hyy]
  refine zaf.pc (zp6 (l:=put [] x y) (by simp [put,zg7]) _ _) rfl (.inr rfl) ?_
  simp(disch:=omega)only[↓RU,RV,RH,↓reduceIte,qE,reduceCtorEq,if_pos,qN,↓RS,RG,qA,qM,qL,zab,zaa,hyx,hyy]
  apply hK;clear hK K
  refine W.ret ?_
  refine XThen.ret ?_
  refine Br rfl ?_
  rw [show ziq ws ht (.leaf (zat p t.r t.c))=put (put [] x y) y x by unfold ziq ybi pareto CT.fold; rw [hz0,zf4 hyx,zf4 hyy]; rfl]
  rfl
 skip
 have h0:ybh (sub p t)=false:=h0
 rw [zp8 hg hi]at h0
 refine W.skip ?_
 refine xn ?_
 refine W.r fun K hK=>?_
 rcases hq:zd4 (zat p) t with _ | ⟨_ | _,k⟩
 ·skip
  exfalso; rw [zhq hi h0 hq]at hx; cases hx
 ·skip
  rw [hq]at hcq
  simp only[qF,if_false]at hcq
  obtain ⟨i1,i2,a1,a2⟩:=hi.cut hq
  have hck:=zew hq
  simp only[qF,if_false]at hck
  obtain ⟨w1,w2⟩:=hw.cut (ze4 hp) hq
  rcases zov (zc4 (zat p) (t.one (false,k))) (zc4 (zat p) (t.two (false,k))) with hx1 | ⟨x1,hx1,hx2⟩ | ⟨x1,x2,hx1,hx2⟩
  ·exfalso; rw [zd0 hi h0 hq,hx1]at hx; cases hx
  ·exfalso; rw [zd0 hi h0 hq,hx1,hx2]at hx; cases hx
  rw [zd0 hi h0 hq,hx1,hx2]at hx
  cases hx
  have b1:=ze8 hp hnw hnh hlw hlh w1 hx1
  have b2:=ze8 hp hnw hnh hlw hlh w2 hx2
  simp(disch:=omega)only[↓RU,RV,RH,↓reduceIte,qE,reduceCtorEq,if_pos,qN,↓RS,RG,qA,qM,qL,hcq]
  refine zaf.pc (zm1 hs2 hg2) rfl (.inl rfl) ?_
  simp(disch:=omega)only[↓RU,RV,RH,↓reduceIte,qE,reduceCtorEq,if_pos,qN,↓RS,RG,qA,qM,qL,hcq]
  apply hK;clear hK K
  refine W.r fun K hK=>?_
  have hP:=zrn hs2 hg2 (k:=k) (by rw [hh2]; omega)
  rw [zws (q:=(false,k)) (by simp; omega),zwt (q:=(false,k)) (by simp; omega)]at hP
  simp(disch:=omega)only[↓RU,RV,RH,↓reduceIte,qE,reduceCtorEq,if_pos,qN,↓RS,RG,qA,qM,qL]
  refine zaf.pc (hP) rfl (.inl rfl) ?_
  simp(disch:=omega)only[↓RU,RV,RH,↓reduceIte,qE,reduceCtorEq,if_pos,qN,↓RS,RG,qA,qM,qL]
  apply hK;clear hK K
  refine W.r fun K hK=>?_
  simp(disch:=omega)only[↓RU,RV,RH,↓reduceIte,qE,reduceCtorEq,if_pos,qN,↓RS,RG,qA,qM,qL]
  refine zaf.pc (ih (t.one (false,k)) _ w1 a1 hx1) rfl (.inr rfl) ?_
  simp(disch:=omega)only[↓RU,RV,RH,↓reduceIte,qE,reduceCtorEq,if_pos,qN,↓RS,RG,qA,qM,qL]
  apply hK;clear hK K
  refine W.r fun K hK=>?_
  simp(disch:=omega)only[↓RU,RV,RH,↓reduceIte,qE,reduceCtorEq,if_pos,qN,↓RS,RG,qA,qM,qL]
  refine zaf.pc (ih (t.two (false,k)) _ w2 a2 hx2) rfl (.inr rfl) ?_
  simp(disch:=omega)only[↓RU,RV,RH,↓reduceIte,qE,reduceCtorEq,if_pos,qN,↓RS,RG,qA,qM,qL]
  apply hK;clear hK K
  obtain ⟨hbX,hlX,-⟩:=b1
  obtain ⟨hbY,hlY,-⟩:=b2
  rw [show ziq ws ht (.node false x1 x2)=pareto (prods false (ziq ws ht x1) (ziq ws ht x2)) from rfl]
  generalize ziq ws ht x1=X at hbX hlX ⊢
  generalize ziq ws ht x2=Y at hbY hlY ⊢
  refine W.seq ?_
  refine W.r fun K hK=>?_
  simp(disch:=omega)only[↓RU,RV,RH,↓reduceIte,qE,reduceCtorEq,if_pos,↓RS,RG,qA,qM,qL]
  apply hK;clear hK K
  refine W.block ?_
  refine W.loop [7,9,13,14,15] (fun n vs S=>∃ i:Nat,n=X.length - i∧i≤X.length∧vs=[zel (pareto (prods false (X.take i) Y)),.int .i64 0,zel X,zel Y,.int .i64 i]∧S=⟨[],tk⟩) (X.length) ?_ ?_
  ·refine ⟨0,0,rfl,Nat.zero_le _,?_,rfl⟩
   simp [Env.put,Env.of,prods,pareto]
  rintro n vs S - ⟨i,rfl,h_i,rfl,rfl⟩
  refine W.seq ?_
  refine W.r fun K hK=>?_
  simp(disch:=omega)only[↓RU,RV,RH,↓reduceIte,qE,reduceCtorEq,if_pos,w64,↓RS,RG,qA,qM,qL,ty1,zab,zaa]
  apply hK;clear hK K
  refine W.cond rfl (fun h1=>?_) (fun h1=>?_)
  ·try simp only[RL]at h1
   obtain ⟨a,hx,hxm⟩:=zah (show i<X.length by omega)
   have hba:=hbX a hxm
   have hxr:=zi3 hx
   have hrX:=zdq (l:=X)
   have hrY:=zdq (l:=Y)
   refine W.skip ?_
   refine xn ?_
   refine W.seq ?_
   refine W.block ?_
   refine W.r fun K hK=>?_
   simp(disch:=omega)only[↓RU,RV,RH,↓reduceIte,qE,reduceCtorEq,if_pos,↓RS,RG,qA,qM,qL]
   apply hK;clear hK K
   refine W.block ?_
   refine W.loop [7,9,13,14,15,16] (fun n vs S=>∃ j:Nat,n=Y.length - j∧j≤Y.length∧vs=[zel (pareto (prods false (X.take i) Y++zfs false a (Y.take j))),.int .i64 0,zel X,zel Y,.int .i64 i,.int .i64 j]∧S=⟨[],tk⟩) (Y.length) ?_ ?_
   ·refine ⟨0,0,rfl,Nat.zero_le _,?_,rfl⟩
    simp [Env.put,Env.of,zfs]
   rintro n vs S - ⟨j,rfl,h_j,rfl,rfl⟩
   refine W.seq ?_
   refine W.r fun K hK=>?_
   simp(disch:=omega)only[↓RU,RV,RH,↓reduceIte,qE,reduceCtorEq,if_pos,w64,↓RS,RG,qA,qM,qL,ty1,zab,zaa]
   apply hK;clear hK K
   refine W.cond rfl (fun h2=>?_) (fun h2=>?_)
   ·try simp only[RL]at h2
    obtain ⟨b,hy,hym⟩:=zah (show j<Y.length by omega)
    have hbb:=hbY b hym
    have hyr:=zi3 hy
    refine W.skip ?_
    refine xn ?_
    refine W.seq ?_
    refine W.block ?_
    refine W.r fun K hK=>?_
    simp(disch:=omega)only[↓RU,RV,RH,↓reduceIte,qE,reduceCtorEq,if_pos,w64,↓RS,RG,qA,qM,qL,zaa]
    apply hK;clear hK K
    refine W.cond rfl (fun h3=>?_) (fun h3=>?_)
    ·try simp only[RL]at h3
     refine W.drawE_k (by kernel_rfl) fun K hK=>?_
     simp(disch:=omega)only[↓RU,RV,RH,↓reduceIte,qE,reduceCtorEq,if_pos,w64,ze2,qN,↓RS,RG,qA,qM,qL,ty1,zab,zaa,Int.toNat_zero,Nat.zero_mul,qZ,qM,Nat.zero_add,Nat.mul_one,hxr,hyr,hrX,hrY]
     refine zaf.pc (zp6 (l:=pareto (prods false (X.take i) Y++zfs false a (Y.take j))) (zxj hbX hbY hx) _ _) rfl (.inr rfl) ?_
     simp(disch:=omega)only[↓RU,RV,RH,↓reduceIte,qE,reduceCtorEq,if_pos,w64,ze2,qN,↓RS,RG,qA,qM,qL,ty1,zab,zaa,Int.toNat_zero,Nat.zero_mul,qZ,qM,Nat.zero_add,Nat.mul_one,hxr,hyr,hrX,hrY]
     apply hK;clear hK K
     refine XbN ?_
     refine xn ?_
     refine W.k fun K hK=>?_
     simp(disch:=omega)only[↓RU,RV,RH,↓reduceIte,qE,reduceCtorEq,if_pos,w64,↓RS,RG,qA,qM,qL,zaa]
     apply hK;clear hK K
     refine xn ?_
     refine ⟨Y.length - (j+1),by omega,0,j+1,rfl,by omega,?_,rfl⟩
     rw [show (prods false (X.take i) Y++zfs false a (Y.take (j+1)))=(prods false (X.take i) Y++zfs false a (Y.take j))++[(a.1+b.1,max a.2 b.2)] by rw [zon hy,List.append_assoc]; rfl,zr2]
     simp [Env.put,Env.of]
    try simp only[RL]at h3
    exact absurd h3 (by simp)
   try simp only[RL]at h2
   obtain rfl:j=Y.length:=by omega
   rw [List.take_length]
   refine W.exit ?_
   refine xe ?_
   refine xe ?_
   refine XBlock.hit ?_
   refine XbN ?_
   refine xn ?_
   refine W.k fun K hK=>?_
   simp(disch:=omega)only[↓RU,RV,RH,↓reduceIte,qE,reduceCtorEq,if_pos,w64,↓RS,RG,qA,qM,qL,zaa]
   apply hK;clear hK K
   refine xn ?_
   refine ⟨X.length - (i+1),by omega,0,i+1,rfl,by omega,?_,rfl⟩
   rw [zoo hx]
   simp [Env.put,Env.of]
  try simp only[RL]at h1
  obtain rfl:i=X.length:=by omega
  rw [List.take_length]
  refine W.exit ?_
  refine xe ?_
  refine xe ?_
  refine XBlock.hit ?_
  refine xn ?_
  refine W.r fun K hK=>?_
  simp(disch:=omega)only[↓RU,RV,RH,↓reduceIte,qE,reduceCtorEq,if_pos,↓RS,RG,qA,qM,qL]
  apply hK;clear hK K
  refine W.ret ?_
  refine Br rfl ?_
  rfl
 skip
 rw [hq]at hcq
 simp only[if_true]at hcq
 obtain ⟨i1,i2,a1,a2⟩:=hi.cut hq
 have hck:=zew hq
 simp only[if_true]at hck
 obtain ⟨w1,w2⟩:=hw.cut (ze4 hp) hq
 rcases zov (zc4 (zat p) (t.one (true,k))) (zc4 (zat p) (t.two (true,k))) with hx1 | ⟨x1,hx1,hx2⟩ | ⟨x1,x2,hx1,hx2⟩
 ·exfalso; rw [zd0 hi h0 hq,hx1]at hx; cases hx
 ·exfalso; rw [zd0 hi h0 hq,hx1,hx2]at hx; cases hx
 rw [zd0 hi h0 hq,hx1,hx2]at hx
 cases hx
 have b1:=ze8 hp hnw hnh hlw hlh w1 hx1
 have b2:=ze8 hp hnw hnh hlw hlh w2 hx2
 simp(disch:=omega)only[↓RU,RV,RH,↓reduceIte,qE,reduceCtorEq,if_pos,qN,↓RS,RG,qA,qM,qL,hcq]
 refine zaf.pc (zm1 hs2 hg2) rfl (.inl rfl) ?_
 simp(disch:=omega)only[↓RU,RV,RH,↓reduceIte,qE,reduceCtorEq,if_pos,qN,↓RS,RG,qA,qM,qL,hcq]
 apply hK;clear hK K
 refine W.r fun K hK=>?_
 have hP:=zrm hs2 hg2 (k:=k) (by rw [hl2]; omega)
 rw [zws (q:=(true,k)) (by simp; omega),zwt (q:=(true,k)) (by simp; omega)]at hP
 simp(disch:=omega)only[↓RU,RV,RH,↓reduceIte,qE,reduceCtorEq,if_pos,qN,↓RS,RG,qA,qM,qL]
 refine zaf.pc (hP) rfl (.inl rfl) ?_
 simp(disch:=omega)only[↓RU,RV,RH,↓reduceIte,qE,reduceCtorEq,if_pos,qN,↓RS,RG,qA,qM,qL]
 apply hK;clear hK K
 refine W.r fun K hK=>?_
 simp(disch:=omega)only[↓RU,RV,RH,↓reduceIte,qE,reduceCtorEq,if_pos,qN,↓RS,RG,qA,qM,qL]
 refine zaf.pc (ih (t.one (true,k)) _ w1 a1 hx1) rfl (.inr rfl) ?_
 simp(disch:=omega)only[↓RU,RV,RH,↓reduceIte,qE,reduceCtorEq,if_pos,qN,↓RS,RG,qA,qM,qL]
 apply hK;clear hK K
 refine W.r fun K hK=>?_
 simp(disch:=omega)only[↓RU,RV,RH,↓reduceIte,qE,reduceCtorEq,if_pos,qN,↓RS,RG,qA,qM,qL]
 refine zaf.pc (ih (t.two (true,k)) _ w2 a2 hx2) rfl (.inr rfl) ?_
 simp(disch:=omega)only[↓RU,RV,RH,↓reduceIte,qE,reduceCtorEq,if_pos,qN,↓RS,RG,qA,qM,qL]
 apply hK;clear hK K
 obtain ⟨hbX,hlX,-⟩:=b1
 obtain ⟨hbY,hlY,-⟩:=b2
 rw [show ziq ws ht (.node true x1 x2)=pareto (prods true (ziq ws ht x1) (ziq ws ht x2)) from rfl]
 generalize ziq ws ht x1=X at hbX hlX ⊢
 generalize ziq ws ht x2=Y at hbY hlY ⊢
 refine W.seq ?_
 refine W.r fun K hK=>?_
 simp(disch:=omega)only[↓RU,RV,RH,↓reduceIte,qE,reduceCtorEq,if_pos,↓RS,RG,qA,qM,qL]
 apply hK;clear hK K
 refine W.block ?_
 refine W.loop [7,9,13,14,15] (fun n vs S=>∃ i:Nat,n=X.length - i∧i≤X.length∧vs=[zel (pareto (prods true (X.take i) Y)),.int .i64 1,zel X,zel Y,.int .i64 i]∧S=⟨[],tk⟩) (X.length) ?_ ?_
 ·refine ⟨0,0,rfl,Nat.zero_le _,?_,rfl⟩
  simp [Env.put,Env.of,prods,pareto]
 rintro n vs S - ⟨i,rfl,h_i,rfl,rfl⟩
 refine W.seq ?_
 refine W.r fun K hK=>?_
 simp(disch:=omega)only[↓RU,RV,RH,↓reduceIte,qE,reduceCtorEq,if_pos,w64,↓RS,RG,qA,qM,qL,ty1,zab,zaa]
 apply hK;clear hK K
 refine W.cond rfl (fun h1=>?_) (fun h1=>?_)
 ·try simp only[RL]at h1
  obtain ⟨a,hx,hxm⟩:=zah (show i<X.length by omega)
  have hba:=hbX a hxm
  have hxr:=zi3 hx
  have hrX:=zdq (l:=X)
  have hrY:=zdq (l:=Y)
  refine W.skip ?_
  refine xn ?_
  refine W.seq ?_
  refine W.block ?_
  refine W.r fun K hK=>?_
  simp(disch:=omega)only[↓RU,RV,RH,↓reduceIte,qE,reduceCtorEq,if_pos,↓RS,RG,qA,qM,qL]
  apply hK;clear hK K
  refine W.block ?_
  refine W.loop [7,9,13,14,15,16] (fun n vs S=>∃ j:Nat,n=Y.length - j∧j≤Y.length∧vs=[zel (pareto (prods true (X.take i) Y++zfs true a (Y.take j))),.int .i64 1,zel X,zel Y,.int .i64 i,.int .i64 j]∧S=⟨[],tk⟩) (Y.length) ?_ ?_
  ·refine ⟨0,0,rfl,Nat.zero_le _,?_,rfl⟩
   simp [Env.put,Env.of,zfs]
  rintro n vs S - ⟨j,rfl,h_j,rfl,rfl⟩
  refine W.seq ?_
  refine W.r fun K hK=>?_
  simp(disch:=omega)only[↓RU,RV,RH,↓reduceIte,qE,reduceCtorEq,if_pos,w64,↓RS,RG,qA,qM,qL,ty1,zab,zaa]
  apply hK;clear hK K
  refine W.cond rfl (fun h2=>?_) (fun h2=>?_)
  ·try simp only[RL]at h2
   obtain ⟨b,hy,hym⟩:=zah (show j<Y.length by omega)
   have hbb:=hbY b hym
   have hyr:=zi3 hy
   refine W.skip ?_
   refine xn ?_
   refine W.seq ?_
   refine W.block ?_
   refine W.r fun K hK=>?_
   simp(disch:=omega)only[↓RU,RV,RH,↓reduceIte,qE,reduceCtorEq,if_pos,w64,↓RS,RG,qA,qM,qL,zaa]
   apply hK;clear hK K
   refine W.cond rfl (fun h3=>?_) (fun h3=>?_)
   ·try simp only[RL]at h3
    exact absurd h3 (by simp)
   try simp only[RL]at h3
   refine W.drawE_k (by kernel_rfl) fun K hK=>?_
   simp(disch:=omega)only[↓RU,RV,RH,↓reduceIte,qE,reduceCtorEq,if_pos,ze2,w64,qN,↓RS,RG,qA,qM,qL,ty1,zab,zaa,Int.toNat_zero,Nat.zero_mul,qZ,qM,Nat.zero_add,Nat.mul_one,hxr,hyr,hrX,hrY]
   refine zaf.pc (zp6 (l:=pareto (prods true (X.take i) Y++zfs true a (Y.take j))) (zxj hbX hbY hx) _ _) rfl (.inr rfl) ?_
   simp(disch:=omega)only[↓RU,RV,RH,↓reduceIte,qE,reduceCtorEq,if_pos,ze2,w64,qN,↓RS,RG,qA,qM,qL,ty1,zab,zaa,Int.toNat_zero,Nat.zero_mul,qZ,qM,Nat.zero_add,Nat.mul_one,hxr,hyr,hrX,hrY]
   apply hK;clear hK K
   refine XbN ?_
   refine xn ?_
   refine W.k fun K hK=>?_
   simp(disch:=omega)only[↓RU,RV,RH,↓reduceIte,qE,reduceCtorEq,if_pos,w64,↓RS,RG,qA,qM,qL,zaa]
   apply hK;clear hK K
   refine xn ?_
   refine ⟨Y.length - (j+1),by omega,0,j+1,rfl,by omega,?_,rfl⟩
   rw [show (prods true (X.take i) Y++zfs true a (Y.take (j+1)))=(prods true (X.take i) Y++zfs true a (Y.take j))++[(max a.1 b.1,a.2+b.2)] by rw [zon hy,List.append_assoc]; rfl,zr2]
   simp [Env.put,Env.of]
  try simp only[RL]at h2
  obtain rfl:j=Y.length:=by omega
  rw [List.take_length]
  refine W.exit ?_
  refine xe ?_
  refine xe ?_
  refine XBlock.hit ?_
  refine XbN ?_
  refine xn ?_
  refine W.k fun K hK=>?_
  simp(disch:=omega)only[↓RU,RV,RH,↓reduceIte,qE,reduceCtorEq,if_pos,w64,↓RS,RG,qA,qM,qL,zaa]
  apply hK;clear hK K
  refine xn ?_
  refine ⟨X.length - (i+1),by omega,0,i+1,rfl,by omega,?_,rfl⟩
  rw [zoo hx]
  simp [Env.put,Env.of]
 try simp only[RL]at h1
 obtain rfl:i=X.length:=by omega
 rw [List.take_length]
 refine W.exit ?_
 refine xe ?_
 refine xe ?_
 refine XBlock.hit ?_
 refine xn ?_
 refine W.r fun K hK=>?_
 simp(disch:=omega)only[↓RU,RV,RH,↓reduceIte,qE,reduceCtorEq,if_pos,↓RS,RG,qA,qM,qL]
 apply hK;clear hK K
 refine W.ret ?_
 refine Br rfl ?_
 rfl
theorem zye {p:List Txt} (hp:zcc p=true) {ws ht:List Int} (hnw:zd9 ws) (hnh:zd9 ht) (hlw:ws.length=(rP p).length) (hlh:ht.length=(rP p).length):∀ (n:Nat) {t:Pt} {x:CT},t.h*t.w≤n→Whole (zat p) p.length (za1 p).length t→zc4 (zat p) t=some x→PC Tryz.prog 56 [zbc (sub p t),eInts ws,eInts ht] (zel (ziq ws ht x)) false
 | 0,t,x,hn',hw,_=>by have:=Nat.mul_pos hw.inn.1 hw.inn.2.1; omega
 | n+1,t,x,hn',hw,hx=>z8i hp hnw hnh hlw hlh hw hx fun t' x' hw' ha hx'=>zye hp hnw hnh hlw hlh n (by omega) hw' hx'
theorem zwi {p:List Txt} (hs:Sm p) {ws ht:List Int} (hw:ws.length≤1048576) (hh:ht.length≤1048576):PC Tryz.prog 17 [zbc p,eInts ws,eInts ht] (.tup [zel (bcV p ws ht),.bool (bcB p ws ht)]) false:=by
 refine PC.of ⟨Tryz.func17,by kernel_rfl,rfl,by kernel_rfl⟩ zbl mixed (by show 3≤Tryz.f17.ntmps; decide) ?_
 refine W.r fun K hK=>?_
 simp(disch:=omega)only[↓RU,RV,RH,↓reduceIte,qE,reduceCtorEq,if_pos,↓RS,RG,qA,qM,qL]
 apply hK;clear hK K
 refine W.seq ?_
 refine W.r fun K hK=>?_
 rcases hgc:(zpc p ws ht,yd5 p) with ⟨_ | _,_ | _⟩
 ·skip
  simp only[Prod.mk.injEq]at hgc
  obtain ⟨hgg,hcc⟩:=hgc
  simp(disch:=omega)only[↓RU,RV,RH,↓reduceIte,qE,reduceCtorEq,if_pos,qN,↓RS,RG,qA,qM,qL,hgg,hcc]
  refine zaf.pc (zkw hs hw hh) rfl (.inl rfl) ?_
  simp(disch:=omega)only[↓RU,RV,RH,↓reduceIte,qE,reduceCtorEq,if_pos,qN,↓RS,RG,qA,qM,qL,hgg,hcc]
  apply hK;clear hK K
  refine W.cond rfl (fun h0=>?_) (fun h0=>?_)
  ·try simp only[RL]at h0
   refine W.r fun K hK=>?_
   simp(disch:=omega)only[↓RU,RV,RH,↓reduceIte,qE,reduceCtorEq,if_pos,↓RS,RG,qA,qM,qL,ty1,zab,zaa]
   apply hK;clear hK K
   refine W.ret ?_
   refine XThen.ret ?_
   refine Br rfl ?_
   have hb:bcB p ws ht=false:=by unfold bcB; rw [← zp3,hgg]; rfl
   rw [ztb hb,hb]
   rfl
  try simp only[RL]at h0
  exact absurd h0 (by simp)
 ·skip
  simp only[Prod.mk.injEq]at hgc
  obtain ⟨hgg,hcc⟩:=hgc
  simp(disch:=omega)only[↓RU,RV,RH,↓reduceIte,qE,reduceCtorEq,if_pos,qN,↓RS,RG,qA,qM,qL,hgg,hcc]
  refine zaf.pc (zkw hs hw hh) rfl (.inl rfl) ?_
  simp(disch:=omega)only[↓RU,RV,RH,↓reduceIte,qE,reduceCtorEq,if_pos,qN,↓RS,RG,qA,qM,qL,hgg,hcc]
  apply hK;clear hK K
  refine W.cond rfl (fun h0=>?_) (fun h0=>?_)
  ·try simp only[RL]at h0
   refine W.r fun K hK=>?_
   simp(disch:=omega)only[↓RU,RV,RH,↓reduceIte,qE,reduceCtorEq,if_pos,↓RS,RG,qA,qM,qL,ty1,zab,zaa]
   apply hK;clear hK K
   refine W.ret ?_
   refine XThen.ret ?_
   refine Br rfl ?_
   have hb:bcB p ws ht=false:=by unfold bcB; rw [← zp3,hgg]; rfl
   rw [ztb hb,hb]
   rfl
  try simp only[RL]at h0
  exact absurd h0 (by simp)
 ·skip
  simp only[Prod.mk.injEq]at hgc
  obtain ⟨hgg,hcc⟩:=hgc
  simp(disch:=omega)only[↓RU,RV,RH,↓reduceIte,qE,reduceCtorEq,if_pos,qN,↓RS,RG,qA,qM,qL,hgg,hcc]
  refine zaf.pc (zkw hs hw hh) rfl (.inl rfl) ?_
  simp(disch:=omega)only[↓RU,RV,RH,↓reduceIte,qE,reduceCtorEq,if_pos,qN,↓RS,RG,qA,qM,qL,hgg,hcc]
  refine zaf.pc (zzs hs) rfl (.inl rfl) ?_
  simp(disch:=omega)only[↓RU,RV,RH,↓reduceIte,qE,reduceCtorEq,if_pos,qN,↓RS,RG,qA,qM,qL,hgg,hcc]
  apply hK;clear hK K
  refine W.cond rfl (fun h0=>?_) (fun h0=>?_)
  ·try simp only[RL]at h0
   refine W.r fun K hK=>?_
   simp(disch:=omega)only[↓RU,RV,RH,↓reduceIte,qE,reduceCtorEq,if_pos,↓RS,RG,qA,qM,qL,ty1,zab,zaa]
   apply hK;clear hK K
   refine W.ret ?_
   refine XThen.ret ?_
   refine Br rfl ?_
   have hv:zde p ws ht=true:=by rw [← zp3]; exact hgg
   obtain ⟨hp,-⟩:=zf5 hv
   simp only[yd5,hp,Bool.true_and]at hcc
   have hb:bcB p ws ht=false:=by unfold bcB; rw [hv,hcc]; rfl
   rw [ztb hb,hb]
   rfl
  try simp only[RL]at h0
  exact absurd h0 (by simp)
 skip
 simp only[Prod.mk.injEq]at hgc
 obtain ⟨hgg,hcc⟩:=hgc
 simp(disch:=omega)only[↓RU,RV,RH,↓reduceIte,qE,reduceCtorEq,if_pos,qN,↓RS,RG,qA,qM,qL,hgg,hcc]
 refine zaf.pc (zkw hs hw hh) rfl (.inl rfl) ?_
 simp(disch:=omega)only[↓RU,RV,RH,↓reduceIte,qE,reduceCtorEq,if_pos,qN,↓RS,RG,qA,qM,qL,hgg,hcc]
 refine zaf.pc (zzs hs) rfl (.inl rfl) ?_
 simp(disch:=omega)only[↓RU,RV,RH,↓reduceIte,qE,reduceCtorEq,if_pos,qN,↓RS,RG,qA,qM,qL,hgg,hcc]
 apply hK;clear hK K
 refine W.cond rfl (fun h0=>?_) (fun h0=>?_)
 ·try simp only[RL]at h0
  exact absurd h0 (by simp)
 try simp only[RL]at h0
 have hv:zde p ws ht=true:=by rw [← zp3]; exact hgg
 obtain ⟨hp,g2,g3,g4,g5,-⟩:=zf5 hv
 simp only[yd5,hp,Bool.true_and]at hcc
 obtain ⟨x,hx⟩:=Option.isSome_iff_exists.1 hcc
 have hT:=zye hp g2 g3 g4 g5 _ (qR _) (zg0 hp) hx
 rw [show (⟨0,0,p.length,(za1 p).length⟩:Pt)=zh6 p from rfl,yax (zed hp)]at hT
 refine W.skip ?_
 refine xn ?_
 refine W.r fun K hK=>?_
 simp(disch:=omega)only[↓RU,RV,RH,↓reduceIte,qE,reduceCtorEq,if_pos,qN,↓RS,RG,qA,qM,qL]
 refine zaf.pc (hT) rfl (.inr rfl) ?_
 simp(disch:=omega)only[↓RU,RV,RH,↓reduceIte,qE,reduceCtorEq,if_pos,qN,↓RS,RG,qA,qM,qL]
 apply hK;clear hK K
 refine W.ret ?_
 refine Br rfl ?_
 rw [show bcB p ws ht=true by unfold bcB; rw [hv,Bool.true_and]; exact hcc,show bcV p ws ht=ziq ws ht x by unfold bcV; rw [hv,if_pos rfl]; simp only[show zc4 (zat p) (zh6 p)=some x from hx]]
 rfl
theorem zs4 {p:List Txt} (hs:Sm p) {ws ht:List Int} (hw:ws.length≤1048576) (hh:ht.length≤1048576):PC Tryz.prog 20 [zbc p,eInts ws,eInts ht] (.tup [zel (bcV p ws ht),.bool (bcB p ws ht)]) false:=by
 cases hg:zde p ws ht with
 | false =>
  have hb:bcB p ws ht=false:=by unfold bcB; rw [hg]; rfl
  rw [ztb hb,hb]
  exact zwm hs hw hh hg
 | true =>
  cases hx:zc4 (zat p) (zh6 p) with
  | none =>
   have hb:bcB p ws ht=false:=by unfold bcB; rw [hg,hx]; rfl
   rw [ztb hb,hb]
   exact zwn hs hw hh hg hx
  | some x =>
   have h:=zwo hs hw hh hg hx
   rw [show bcB p ws ht=true by unfold bcB; rw [hg,hx]; rfl,show bcV p ws ht=ziq ws ht x by unfold bcV; rw [hg,if_pos rfl,hx]]
   exact h
end Fw
end Go.Proofs.YtjobkanbijpfgaaGreat
